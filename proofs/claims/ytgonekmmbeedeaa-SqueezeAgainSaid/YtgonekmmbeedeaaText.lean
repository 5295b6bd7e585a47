/-
  word.Text: the decimal digits of a number. No condition but that the number is one of 64 bits.
-/
import Derived.Test.YtgonekmmbeedeaaBase
import Derived.Lib.ItoaNum
import Derived.Laws.BytesArg
namespace Go.Proofs.Ytgonekmmbeedeaa
open Go.RowKit

/-- What stands in the row b behind the digits that are written: r from place k on. -/
def TxRow (cs : Array Value) (k : Nat) (r : List UInt8) : Prop := cs.size = 20 ∧ k + r.length = 20 ∧ ∀ j, j < r.length → cs[k + j]? = some (.int .u8 (r.getD j 0).toNat)
/-- The digits of U are those of what is left, v, and behind them r. -/
def TxLeft (U v : Nat) (r : List UInt8) : Prop := Lib.decDigits U = Lib.decDigits v ++ r ∧ (0 < v ∨ r = []) ∧ v ≤ U

theorem dec_small (u : Nat) (h : u < 10) : Lib.decDigits u = [UInt8.ofNat (48 + u)] := by rw [Lib.decDigits, dif_pos h]
theorem dec_big (u : Nat) (h : ¬ u < 10) : Lib.decDigits u = Lib.decDigits (u / 10) ++ [UInt8.ofNat (48 + u % 10)] := by rw [Lib.decDigits, dif_neg h]
theorem dec_len : ∀ (k u : Nat), u < 10 ^ (k + 1) → (Lib.decDigits u).length ≤ k + 1
  | 0, u, h => by rw [dec_small u (by simpa using h)]; simp
  | k + 1, u, h => by
    by_cases hs : u < 10
    · rw [dec_small u hs]; simp
    · rw [dec_big u hs, List.length_append]
      have := dec_len k (u / 10) (by rw [Nat.pow_succ] at h; omega)
      simp; omega
theorem dec_pos (u : Nat) : 1 ≤ (Lib.decDigits u).length := by
  by_cases hs : u < 10
  · rw [dec_small u hs]; simp
  · rw [dec_big u hs]; simp
theorem tx_room {U v : Nat} {r : List UInt8} (h : TxLeft U v r) (hU : U ≤ 9223372036854775808) : r.length ≤ 18 := by
  have h1 := dec_len 18 U (by omega)
  have h2 := dec_pos v
  rw [h.1, List.length_append] at h1; omega
theorem tx_set {cs : Array Value} {k : Nat} {r : List UInt8} (h : TxRow cs k r) (hk : 1 ≤ k) (d : Nat) (hd : d < 256) : TxRow (cs.setIfInBounds (k - 1) (.int .u8 d)) (k - 1) (UInt8.ofNat d :: r) := by
  obtain ⟨h1, h2, h3⟩ := h
  refine ⟨by simpa using h1, by simp; omega, fun j hj => ?_⟩
  cases j with
  | zero =>
    rw [Nat.add_zero, Array.getElem?_setIfInBounds_self_of_lt (by omega)]
    simp [UInt8.toNat_ofNat_of_lt' (show d < UInt8.size by simpa [UInt8.size] using hd)]
  | succ j =>
    have e : k - 1 + (j + 1) = k + j := by omega
    rw [e, Array.getElem?_setIfInBounds_ne (by omega)]
    simpa using h3 j (by simpa using hj)
theorem tx_next {U v : Nat} {r : List UInt8} (h : TxLeft U v r) (hv : ¬ v < 10) : TxLeft U (v / 10) (UInt8.ofNat (48 + v % 10) :: r) := by
  obtain ⟨h1, h2, h3⟩ := h
  refine ⟨by rw [h1, dec_big v hv]; simp, by omega, by omega⟩
theorem tx_last {U v : Nat} {r : List UInt8} (h : TxLeft U v r) (hv : v < 10) : UInt8.ofNat (48 + v % 10) :: r = Lib.decDigits U := by
  rw [h.1, dec_small v hv, Nat.mod_eq_of_lt hv]; rfl
def txNums (r : List UInt8) : List Int := r.map fun b => (b.toNat : Int)
theorem tx_str (r : List UInt8) : (strOfNums (txNums r)).data.toList = r := by
  rw [strOfNums_data]; unfold txNums; rw [List.map_map]
  conv => rhs; rw [← List.map_id r]
  apply List.map_congr_left; intro b _; simp
theorem tx_str' (r : List UInt8) : strOfNums (txNums r) = ⟨r.toArray⟩ := by
  have := tx_str r
  cases h : strOfNums (txNums r) with | mk a => rw [h] at this; subst this; simp
theorem tx_conv {cs : Array Value} {k : Nat} {r : List UInt8} (h : TxRow cs k r) (w : World) (t : TypeId) :
    Sem.run Try.prog (convert 26 9 (.slice (some ⟨w.heap.size, k, none⟩) (20 - k) (20 - k))) (w.alloc (.cells cs t)) = .ok (.string ⟨r.toArray⟩) (w.alloc (.cells cs t)) := by
  obtain ⟨h1, h2, h3⟩ := h
  have hl : 20 - k = r.length := by omega
  rw [hl, ← tx_str']
  refine run_convert_bytes_arg (w.alloc (.cells cs t)) 26 5 Try.underlying26 Try.underlying5 w.heap.size k r.length r.length (txNums r) (by simp [txNums]) (fun i hi => ?_) 9 Try.underlying9
  rw [World.cell?_alloc_new]
  rw [h3 i hi]; simp [txNums]
  rw [List.getElem?_eq_getElem hi]; rfl

theorem tx_slice (w1 : World) (b : Nat) (l : Int) (k : Nat) (hl : l = k) (hk : k < 20) :
    Sem.run Try.prog (Instr.sliceAt 141 (.pointer (some ⟨b, 0, none⟩)) (some (.int .i64 l)) none none) w1 = .ok (.slice (some ⟨b, k, none⟩) (20 - k) (20 - k)) w1 := by
  have ha : Try.prog.arrayLen 141 = 20 := by kernel_rfl
  have he : Try.prog.elem 141 = 5 := by kernel_rfl
  have hs : (sizeOf 5).run Try.prog w1 = .ok 1 w1 := by kernel_rfl
  subst hl
  rw [run_sliceAt_array_l w1 141 ⟨b, 0, none⟩ (by rw [ha, he]; exact Try.underlying141) .i64 k (by omega) (by rw [ha]; omega), he, hs, ha]
  have hne : ¬ 20 = k := by omega
  simp [slicedAt, Result.andThen, hne, Addr.add]
  intro h; omega
/-- What the walk is told of the row's last round: the digits are all written. -/
theorem tx_end {cs : Array Value} {k v n : Nat} {r : List UInt8} (hrow : TxRow cs k r) (hk : 2 ≤ k) (hleft : TxLeft n v r) (hv : v < 10) (w : World) :
    Sem.run Try.prog (convert 26 9 (.slice (some ⟨w.heap.size, k - 1, none⟩) (20 - (k - 1)) (20 - (k - 1)))) (w.alloc (.cells (cs.setIfInBounds (k - 1) (.int .u8 (48 + (v : Int) % 10))) 141)) = .ok (.string ⟨(Lib.decDigits n).toArray⟩) (w.alloc (.cells (cs.setIfInBounds (k - 1) (.int .u8 (48 + (v : Int) % 10))) 141)) := by
  have h := tx_conv (tx_set hrow (by omega) (48 + v % 10) (by omega)) w 141
  rw [tx_last hleft hv] at h
  exact h
theorem tx_end_neg {cs : Array Value} {k v n : Nat} {r : List UInt8} (hrow : TxRow cs k r) (hk : 2 ≤ k) (hleft : TxLeft n v r) (hv : v < 10) (w : World) :
    Sem.run Try.prog (convert 26 9 (.slice (some ⟨w.heap.size, k - 1 - 1, none⟩) (20 - (k - 1 - 1)) (20 - (k - 1 - 1)))) (w.alloc (.cells ((cs.setIfInBounds (k - 1) (.int .u8 (48 + (v : Int) % 10))).setIfInBounds (k - 1 - 1) (.int .u8 45)) 141)) = .ok (.string ⟨(45 :: Lib.decDigits n).toArray⟩) (w.alloc (.cells ((cs.setIfInBounds (k - 1) (.int .u8 (48 + (v : Int) % 10))).setIfInBounds (k - 1 - 1) (.int .u8 45)) 141)) := by
  have h1 := tx_set hrow (by omega) (48 + v % 10) (by omega)
  rw [tx_last hleft hv] at h1
  have h := tx_conv (tx_set h1 (by omega) 45 (by omega)) w 141
  exact h
theorem tx_round {cs : Array Value} {k v n : Nat} {r : List UInt8} (hrow : TxRow cs k r) (hk : 2 ≤ k) (hleft : TxLeft n v r) (hv : ¬ v < 10) (w : World) :
    ∃ (k' v' : Nat) (r' : List UInt8) (cs' : Array Value), Value.int .i64 ((k : Int) - 1) = .int .i64 k' ∧ Value.int .u64 ((v : Int) / 10) = .int .u64 v' ∧ TxRow cs' k' r' ∧ TxLeft n v' r' ∧ w.alloc (.cells (cs.setIfInBounds (k - 1) (.int .u8 (48 + (v : Int) % 10))) 141) = w.alloc (.cells cs' 141) := by
  refine ⟨k - 1, v / 10, UInt8.ofNat (48 + v % 10) :: r, _, ?_, by simp, tx_set hrow (by omega) (48 + v % 10) (by omega), tx_next hleft hv, ?_⟩
  · have : (((k - 1 : Nat)) : Int) = (k : Int) - 1 := by omega
    rw [this]
  · rfl

set_option maxRecDepth 20000 in
set_option maxHeartbeats 1000000 in
theorem text_nonneg (n : Nat) (w : World) (h : n ≤ 9223372036854775807) :
    Calls Try.prog 98 #[.int .i64 n] w fun e w' => e = .returned (.string ⟨(Lib.decDigits n).toArray⟩) ∧ Kp w w' := by
  go_enter Try.func98, Try.ntmps98
  go_wp2
  go_loopw [4, 5] (fun i u wr => ∃ (k v : Nat) (r : List UInt8) (cs : Array Value), i = .int .i64 k ∧ u = .int .u64 v ∧ TxRow cs k r ∧ TxLeft n v r ∧ wr = w.alloc (.cells cs 141))
    (fun _ u _ => (intOf u).toNat)
  case atStart => exact ⟨20, n, [], _, rfl, rfl, ⟨rfl, rfl, fun j hj => by simp at hj⟩, ⟨by simp, Or.inr rfl, Nat.le_refl _⟩, rfl⟩
  case round =>
    obtain ⟨k, v, r, cs, rfl, rfl, hrow, hleft, rfl⟩ := hrel
    have hr := tx_room hleft (by omega)
    have hk : 2 ≤ k ∧ k ≤ 20 := by have := hrow.2.1; omega
    have hcs : cs.size = 20 := hrow.1
    have hv2 : v ≤ n := hleft.2.2
    obtain ⟨v0, hv0⟩ : ∃ v0, cs[k - 1]? = some v0 := ⟨_, Array.getElem?_eq_getElem (by omega)⟩
    by_cases hv : v < 10
    · have hq : ((v : Int) / 10 == 0) = true := by simp; omega
      have hend := tx_end hrow hk.1 hleft hv w
      have hsl := fun w1 => tx_slice w1 w.heap.size ((k : Int) - 1) (k - 1) (by omega) (by omega)
      clear hrow hleft hr
      go_wp2
      go_ret
      exact ⟨rfl, (Kp.refl _).alloc _⟩
    · have hq : ((v : Int) / 10 == 0) = false := by simp; omega
      have HR := hid (tx_round hrow hk.1 hleft hv w)
      clear hrow hleft hr
      go_wp2
      go_roundw
      case rel => exact HR.out
      case measure => simp [intOf]; omega

set_option maxRecDepth 20000 in
set_option maxHeartbeats 1000000 in
theorem text_neg (n : Nat) (w : World) (h : n ≤ 9223372036854775808) (h1 : 1 ≤ n) :
    Calls Try.prog 98 #[.int .i64 (-(n : Int))] w fun e w' => e = .returned (.string ⟨(45 :: Lib.decDigits n).toArray⟩) ∧ Kp w w' := by
  go_enter Try.func98, Try.ntmps98
  go_wp2
  go_loopw [4, 5] (fun i u wr => ∃ (k v : Nat) (r : List UInt8) (cs : Array Value), i = .int .i64 k ∧ u = .int .u64 v ∧ TxRow cs k r ∧ TxLeft n v r ∧ wr = w.alloc (.cells cs 141))
    (fun _ u _ => (intOf u).toNat)
  case atStart => exact ⟨20, n, [], _, rfl, by rw [IntKind.wrap_u64, IntKind.wrap_u64]; congr 1; omega, ⟨rfl, rfl, fun j hj => by simp at hj⟩, ⟨by simp, Or.inr rfl, Nat.le_refl _⟩, rfl⟩
  case round =>
    obtain ⟨k, v, r, cs, rfl, rfl, hrow, hleft, rfl⟩ := hrel
    have hr := tx_room hleft (by omega)
    have hk : 2 ≤ k ∧ k ≤ 20 := by have := hrow.2.1; omega
    have hcs : cs.size = 20 := hrow.1
    have hv2 : v ≤ n := hleft.2.2
    obtain ⟨v0, hv0⟩ : ∃ v0, cs[k - 1]? = some v0 := ⟨_, Array.getElem?_eq_getElem (by omega)⟩
    by_cases hv : v < 10
    · have hq : ((v : Int) / 10 == 0) = true := by simp; omega
      have hend := tx_end_neg hrow hk.1 hleft hv w
      have hsl := fun w1 => tx_slice w1 w.heap.size ((k : Int) - 1 - 1) (k - 1 - 1) (by omega) (by omega)
      obtain ⟨v1, hv1⟩ : ∃ v1, (cs.setIfInBounds (k - 1) (.int .u8 (48 + (v : Int) % 10)))[k - 1 - 1]? = some v1 := ⟨_, Array.getElem?_eq_getElem (by simp; omega)⟩
      clear hrow hleft hr
      go_wp2
      go_ret
      exact ⟨rfl, (Kp.refl _).alloc _⟩
    · have hq : ((v : Int) / 10 == 0) = false := by simp; omega
      have HR := hid (tx_round hrow hk.1 hleft hv w)
      clear hrow hleft hr
      go_wp2
      go_roundw
      case rel => exact HR.out
      case measure => simp [intOf]; omega

/-- word.Text writes the number's decimal digits. -/
theorem text_any (n : Int) (w : World) (h : -9223372036854775808 ≤ n ∧ n ≤ 9223372036854775807) :
    Calls Try.prog 98 #[.int .i64 n] w fun e w' => e = .returned (.string ⟨(Lib.itoa n).toArray⟩) ∧ Kp w w' := by
  by_cases hn : n < 0
  · obtain ⟨m, rfl⟩ : ∃ m : Nat, n = -(m : Int) := ⟨n.natAbs, by omega⟩
    have := text_neg m w (by omega) (by omega)
    unfold Lib.itoa; rw [if_pos hn, show (-(m : Int)).natAbs = m by omega]; exact this
  · obtain ⟨m, rfl⟩ : ∃ m : Nat, n = m := ⟨n.toNat, by omega⟩
    have := text_nonneg m w (by omega)
    unfold Lib.itoa; rw [if_neg hn, Int.toNat_natCast]; exact this
end Go.Proofs.Ytgonekmmbeedeaa
