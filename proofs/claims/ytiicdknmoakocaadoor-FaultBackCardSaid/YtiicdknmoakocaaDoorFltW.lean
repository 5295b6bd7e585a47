/-
  Package fault: what run-time errors tell: fixed, bounds, Text. No condition.
-/
import Derived.Test.YtiicdknmoakocaaDoorFlt
import Derived.Test.YtiicdknmoakocaaDoorText
import Derived.Test.YtiicdknmoakocaaDoorRegF
import Derived.Test.YtiicdknmoakocaaDoorBlk
import Derived.Deep.QuietTactic
import Derived.BigQuiet
import Derived.Deep.DeepCutAuto
namespace Go.Proofs.YtiicdknmoakocaaDoor
open Go.RowKit
set_option linter.unusedVariables false
set_option linter.unusedSimpArgs false

def fHead : List UInt8 := [114, 117, 110, 116, 105, 109, 101, 32, 101, 114, 114, 111, 114, 58, 32]
def cIx : List UInt8 := [114, 117, 110, 116, 105, 109, 101, 32, 101, 114, 114, 111, 114, 58, 32, 105, 110, 100, 101, 120, 32, 111, 117, 116, 32, 111, 102, 32, 114, 97, 110, 103, 101, 32, 91]
def cWl : List UInt8 := [93, 32, 119, 105, 116, 104, 32, 108, 101, 110, 103, 116, 104, 32]
def cLn : List UInt8 := [114, 117, 110, 116, 105, 109, 101, 32, 101, 114, 114, 111, 114, 58, 32, 108, 101, 110, 103, 116, 104, 32]
def cAb : List UInt8 := [32, 105, 115, 32, 97, 98, 111, 118, 101, 32]
def cSl : List UInt8 := [114, 117, 110, 116, 105, 109, 101, 32, 101, 114, 114, 111, 114, 58, 32, 115, 108, 105, 99, 101, 32, 98, 111, 117, 110, 100, 115, 32, 111, 117, 116, 32, 111, 102, 32, 114, 97, 110, 103, 101, 32, 91]
def cF2 : List UInt8 := [114, 117, 110, 116, 105, 109, 101, 32, 101, 114, 114, 111, 114, 58, 32, 105, 110, 116, 101, 103, 101, 114, 32, 100, 105, 118, 105, 100, 101, 32, 98, 121, 32, 122, 101, 114, 111]
def cF3 : List UInt8 := [114, 117, 110, 116, 105, 109, 101, 32, 101, 114, 114, 111, 114, 58, 32, 110, 101, 103, 97, 116, 105, 118, 101, 32, 115, 104, 105, 102, 116, 32, 97, 109, 111, 117, 110, 116]
def cF4 : List UInt8 := [114, 117, 110, 116, 105, 109, 101, 32, 101, 114, 114, 111, 114, 58, 32, 105, 110, 118, 97, 108, 105, 100, 32, 109, 101, 109, 111, 114, 121, 32, 97, 100, 100, 114, 101, 115, 115, 32, 111, 114, 32, 110, 105, 108, 32, 112, 111, 105, 110, 116, 101, 114, 32, 100, 101, 114, 101, 102, 101, 114, 101, 110, 99, 101]
def cF6 : List UInt8 := [114, 117, 110, 116, 105, 109, 101, 32, 101, 114, 114, 111, 114, 58, 32, 110, 111, 32, 105, 110, 116, 32, 105, 110, 32, 97, 110, 121]
def cF8 : List UInt8 := [114, 117, 110, 116, 105, 109, 101, 32, 101, 114, 114, 111, 114, 58, 32, 112, 97, 110, 105, 99, 32, 99, 97, 108, 108, 101, 100, 32, 119, 105, 116, 104, 32, 110, 105, 108]
/-- What an error without numbers tells. -/
def fixedM (k : Int) : List UInt8 := if k = 2 then cF2 else if k = 3 then cF3 else if k = 4 then cF4 else if k = 6 then cF6 else if k = 8 then cF8 else []
def boundsM (lo hi n : Int) : List UInt8 := if hi < 0 ∨ n < hi then cSl ++ (58 :: (Lib.itoa hi ++ (cWl ++ Lib.itoa n))) else if hi < lo then cSl ++ (Lib.itoa lo ++ (58 :: (Lib.itoa hi ++ [93]))) else if lo < 0 then cSl ++ (Lib.itoa lo ++ [58, 93]) else []
def textM (f : FaultM) : List UInt8 := if f.k = 1 then cIx ++ (Lib.itoa f.a ++ (cWl ++ Lib.itoa f.b)) else if f.k = 5 then boundsM f.a f.b f.c else if f.k = 7 then cLn ++ (Lib.itoa f.a ++ (cAb ++ Lib.itoa f.b)) else fixedM f.k
theorem bapp (x y : List UInt8) : (⟨x.toArray⟩ : ByteArray) ++ ⟨y.toArray⟩ = ⟨(x ++ y).toArray⟩ := by
  apply ByteArray.ext
  rw [ByteArray.data_append]
  apply Array.toList_inj.1
  simp
set_option maxRecDepth 20000 in
set_option maxHeartbeats 2000000 in
theorem fixed_any (k : Int) (w : World) : Calls Tryd.prog 17 #[.int .i64 k] w fun e w' => e = .returned (.string ⟨(fixedM k).toArray⟩) ∧ w = w' := by
  by_cases h2 : k = 2
  · have t2 : (k == 2) = true := by simp [h2]
    have e : fixedM k = cF2 := by unfold fixedM; rw [if_pos h2]
    rw [e]; clear e h2
    go_enter Tryd.func17, Tryd.ntmps17
    go_wp2
    go_ret
    exact ⟨rfl, rfl⟩
  have t2 : (k == 2) = false := by rw [beq_eq_false_iff_ne]; exact h2
  by_cases h3 : k = 3
  · have t3 : (k == 3) = true := by simp [h3]
    have e : fixedM k = cF3 := by unfold fixedM; rw [if_neg h2, if_pos h3]
    rw [e]; clear e h2 h3
    go_enter Tryd.func17, Tryd.ntmps17
    go_wp2
    go_ret
    exact ⟨rfl, rfl⟩
  have t3 : (k == 3) = false := by rw [beq_eq_false_iff_ne]; exact h3
  by_cases h4 : k = 4
  · have t4 : (k == 4) = true := by simp [h4]
    have e : fixedM k = cF4 := by unfold fixedM; rw [if_neg h2, if_neg h3, if_pos h4]
    rw [e]; clear e h2 h3 h4
    go_enter Tryd.func17, Tryd.ntmps17
    go_wp2
    go_ret
    exact ⟨rfl, rfl⟩
  have t4 : (k == 4) = false := by rw [beq_eq_false_iff_ne]; exact h4
  by_cases h6 : k = 6
  · have t6 : (k == 6) = true := by simp [h6]
    have e : fixedM k = cF6 := by unfold fixedM; rw [if_neg h2, if_neg h3, if_neg h4, if_pos h6]
    rw [e]; clear e h2 h3 h4 h6
    go_enter Tryd.func17, Tryd.ntmps17
    go_wp2
    go_ret
    exact ⟨rfl, rfl⟩
  have t6 : (k == 6) = false := by rw [beq_eq_false_iff_ne]; exact h6
  by_cases h8 : k = 8
  · have t8 : (k == 8) = true := by simp [h8]
    have e : fixedM k = cF8 := by unfold fixedM; rw [if_neg h2, if_neg h3, if_neg h4, if_neg h6, if_pos h8]
    rw [e]; clear e h2 h3 h4 h6 h8
    go_enter Tryd.func17, Tryd.ntmps17
    go_wp2
    go_ret
    exact ⟨rfl, rfl⟩
  have t8 : (k == 8) = false := by rw [beq_eq_false_iff_ne]; exact h8
  have e : fixedM k = [] := by unfold fixedM; rw [if_neg h2, if_neg h3, if_neg h4, if_neg h6, if_neg h8]
  rw [e]; clear e h2 h3 h4 h6 h8
  go_enter Tryd.func17, Tryd.ntmps17
  go_wp2
  go_ret
  exact ⟨rfl, rfl⟩
/-! ### bounds -/
/-- A number's text. -/
def tx (v : Int) : ByteArray := ⟨(Lib.itoa v).toArray⟩
theorem tx_any (v : Int) (w : World) (h : okI v) : Calls Tryd.prog 15 #[.int .i64 v] w fun e w' => e = .returned (.string (tx v)) ∧ Kp w w' := text_any v w h
theorem tx_size (v : Int) (h : okI v) : (tx v).size ≤ 20 := by
  unfold tx
  show (Lib.itoa v).toArray.size ≤ 20
  rw [List.size_toArray]
  unfold Lib.itoa
  have h1 := dec_len 18 v.natAbs (by unfold okI at h; omega)
  unfold okI at h
  split
  · rw [List.length_cons]; omega
  · have h3 := dec_len 18 v.toNat (by omega)
    omega
theorem rs {a b : List UInt8} {v : Value} (hv : v = .string ⟨a.toArray⟩) (h : a = b) : Ending.returned v = .returned (.string ⟨b.toArray⟩) := by rw [hv, h]
set_option maxRecDepth 20000 in
set_option maxHeartbeats 2000000 in
theorem fbounds_any (lo hi n : Int) (h1 : okI lo) (h2 : okI hi) (h3 : okI n) (w : World) : Calls Tryd.prog 16 #[.int .i64 lo, .int .i64 hi, .int .i64 n] w fun e w' => e = .returned (.string ⟨(boundsM lo hi n).toArray⟩) ∧ Kp w w' := by
  have H1 := hid h1; have H2 := hid h2; have H3 := hid h3
  have z1 := tx_size lo h1; have z2 := tx_size hi h2; have z3 := tx_size n h3
  clear h1 h2 h3
  by_cases c0 : hi < 0 ∨ n < hi
  · have HE := hid (show boundsM lo hi n = cSl ++ (58 :: (Lib.itoa hi ++ (cWl ++ Lib.itoa n))) by unfold boundsM; rw [if_pos c0])
    have hc : hi < 0 ∨ (¬ hi < 0 ∧ n < hi) := by omega
    clear c0
    rcases hc with c1 | ⟨c1, c2⟩
    all_goals
      go_enter Tryd.func16, Tryd.ntmps16
      go_wp2_with (go_at_call 15; go_must (refine (tx_any _ _ (by first | exact H1.out | exact H2.out | exact H3.out)).mono ?_); rintro e w1 ⟨rfl, hk1⟩; first | (have HK2 := hid (HK1.out.trans hk1)) | (have HK1 := hid hk1); clear hk1)
      go_ret
      exact ⟨by rw [HE.out]; unfold tx; simp only [bapp]; exact rs rfl (by simp [cSl, cWl]), HK2.out⟩
  · have c1 : ¬ hi < 0 := by omega
    have c2 : ¬ n < hi := by omega
    by_cases c3 : hi < lo
    · have HE := hid (show boundsM lo hi n = cSl ++ (Lib.itoa lo ++ (58 :: (Lib.itoa hi ++ [93]))) by unfold boundsM; rw [if_neg c0, if_pos c3])
      clear c0
      go_enter Tryd.func16, Tryd.ntmps16
      go_wp2_with (go_at_call 15; go_must (refine (tx_any _ _ (by first | exact H1.out | exact H2.out | exact H3.out)).mono ?_); rintro e w1 ⟨rfl, hk1⟩; first | (have HK2 := hid (HK1.out.trans hk1)) | (have HK1 := hid hk1); clear hk1)
      go_ret
      exact ⟨by rw [HE.out]; unfold tx; simp only [bapp]; exact rs rfl (by simp [cSl, cWl]), HK2.out⟩
    · by_cases c4 : lo < 0
      · have HE := hid (show boundsM lo hi n = cSl ++ (Lib.itoa lo ++ [58, 93]) by unfold boundsM; rw [if_neg c0, if_neg c3, if_pos c4])
        clear c0
        go_enter Tryd.func16, Tryd.ntmps16
        go_wp2_with (go_at_call 15; go_must (refine (tx_any _ _ (by first | exact H1.out | exact H2.out | exact H3.out)).mono ?_); rintro e w1 ⟨rfl, hk1⟩; have HK1 := hid hk1; clear hk1)
        go_ret
        exact ⟨by rw [HE.out]; unfold tx; simp only [bapp]; exact rs rfl (by simp [cSl, cWl]), HK1.out⟩
      · have HE := hid (show boundsM lo hi n = [] by unfold boundsM; rw [if_neg c0, if_neg c3, if_neg c4])
        clear c0
        go_enter Tryd.func16, Tryd.ntmps16
        go_wp2
        go_ret
        exact ⟨by rw [HE.out]; rfl, Kp.refl _⟩
/-! ### Text -/
def okFt (f : FaultM) : Prop := okI f.k ∧ okI f.a ∧ okI f.b ∧ okI f.c
def fAgg (f : FaultM) : Value := .agg #[.int .i64 f.k, .int .i64 f.a, .int .i64 f.b, .int .i64 f.c]
set_option maxRecDepth 20000 in
set_option maxHeartbeats 4000000 in
theorem ftext_any (f : FaultM) (h : okFt f) (w : World) : Calls Tryd.prog 6 #[fAgg f] w fun e w' => e = .returned (.string ⟨(textM f).toArray⟩) ∧ Kp w w' := by
  obtain ⟨k, a, b, c⟩ := f
  have H1 := hid h.2.1; have H2 := hid h.2.2.1; have H3 := hid h.2.2.2
  have z1 := tx_size a h.2.1; have z2 := tx_size b h.2.2.1
  have HK := hid (show Kp w (w.alloc (.cells #[.int .i64 k, .int .i64 a, .int .i64 b, .int .i64 c] 23)) from (Kp.refl _).alloc _)
  have HB := hid (blk_new w (.cells #[.int .i64 k, .int .i64 a, .int .i64 b, .int .i64 c] 23))
  clear h
  unfold fAgg
  have hx : w.heap.size < (w.alloc (.cells #[.int .i64 k, .int .i64 a, .int .i64 b, .int .i64 c] 23)).heap.size := blk_lt HB.out
  by_cases h1 : k = 1
  · have t1 : (k == 1) = true := by simp [h1]
    have HE := hid (show textM ⟨k, a, b, c⟩ = cIx ++ (Lib.itoa a ++ (cWl ++ Lib.itoa b)) by unfold textM; rw [if_pos h1])
    clear h1 hx
    go_enter Tryd.func6, Tryd.ntmps6
    go_upto_region 3 with fail
    generalize (w.alloc (.cells #[.int .i64 k, .int .i64 a, .int .i64 b, .int .i64 c] 23)) = W at HK HB ⊢
    have hlb := blk_lt HB.out
    refine wp_region_kp [[], [0], [1], [2], [3], [], [5], [6], [4, 7], [8]] (fun u => Kp W u)
      [fun (y : Value) (u : World) => y = (.pointer (some ⟨w.heap.size, 1, none⟩) : Value),
       fun (y : Value) (u : World) => y = (.int .i64 a : Value),
       fun (y : Value) (u : World) => y = (.string (tx a) : Value),
       fun (y : Value) (u : World) => y = (.string (⟨#[114, 117, 110, 116, 105, 109, 101, 32, 101, 114, 114, 111, 114, 58, 32, 105, 110, 100, 101, 120, 32, 111, 117, 116, 32, 111, 102, 32, 114, 97, 110, 103, 101, 32, 91]⟩ ++ tx a) : Value),
       fun (y : Value) (u : World) => y = (.string (⟨#[114, 117, 110, 116, 105, 109, 101, 32, 101, 114, 114, 111, 114, 58, 32, 105, 110, 100, 101, 120, 32, 111, 117, 116, 32, 111, 102, 32, 114, 97, 110, 103, 101, 32, 91]⟩ ++ tx a ++ ⟨#[93, 32, 119, 105, 116, 104, 32, 108, 101, 110, 103, 116, 104, 32]⟩) : Value),
       fun (y : Value) (u : World) => y = (.pointer (some ⟨w.heap.size, 2, none⟩) : Value),
       fun (y : Value) (u : World) => y = (.int .i64 b : Value),
       fun (y : Value) (u : World) => y = (.string (tx b) : Value),
       fun (y : Value) (u : World) => y = (.string (⟨#[114, 117, 110, 116, 105, 109, 101, 32, 101, 114, 114, 111, 114, 58, 32, 105, 110, 100, 101, 120, 32, 111, 117, 116, 32, 111, 102, 32, 114, 97, 110, 103, 101, 32, 91]⟩ ++ tx a ++ ⟨#[93, 32, 119, 105, 116, 104, 32, 108, 101, 110, 103, 116, 104, 32]⟩ ++ tx b) : Value),
       fun (y : Value) (u : World) => y = (.string (⟨#[114, 117, 110, 116, 105, 109, 101, 32, 101, 114, 114, 111, 114, 58, 32, 105, 110, 100, 101, 120, 32, 111, 117, 116, 32, 111, 102, 32, 114, 97, 110, 103, 101, 32, 91]⟩ ++ tx a ++ ⟨#[93, 32, 119, 105, 116, 104, 32, 108, 101, 110, 103, 116, 104, 32]⟩ ++ tx b) : Value)]
      (by kernel_rfl) (by kernel_rfl) (by kernel_rfl) (by kernel_rfl) ((Kp.refl _).drew) (fun _ _ hk h => h.trans hk) ⟨fun _ _ _ _ h => h, fun _ _ _ _ h => h, fun _ _ _ _ h => h, fun _ _ _ _ h => h, fun _ _ _ _ h => h, fun _ _ _ _ h => h, fun _ _ _ _ h => h, fun _ _ _ _ h => h, fun _ _ _ _ h => h, fun _ _ _ _ h => h, trivial⟩ ⟨?sb0, ?sb1, ?sb2, ?sb3, ?sb4, ?sb5, ?sb6, ?sb7, ?sb8, ?sb9, trivial⟩ ?hEb
    case sb0 =>
      intro x u hg hd K hK
      clear hd
      refine ⟨?_⟩
      simp only [putsFrom, Act.put, List.setIfInBounds_toArray, List.set_cons_zero, List.set_cons_succ, Nat.reduceAdd] at hK ⊢
      go_simp
      exact hK.out _ _ (Kp.refl _) rfl
    case sb1 =>
      intro x u hg hd K hK
      have d0 : (x 0) = .pointer (some ⟨w.heap.size, 1, none⟩) := And.left hd
      clear hd
      have q9 := blk_cell (o := 1) (v := .int .i64 a) ((hg.block _ hlb).trans HB.out) rfl
      refine ⟨?_⟩
      simp only [putsFrom, Act.put, List.setIfInBounds_toArray, List.set_cons_zero, List.set_cons_succ, Nat.reduceAdd, d0] at hK ⊢
      go_simp
      exact hK.out _ _ (Kp.refl _) rfl
    case sb2 =>
      intro x u hg hd K hK
      have d1 : (x 1) = .int .i64 a := And.left hd
      clear hd
      refine ⟨?_⟩
      simp only [putsFrom, Act.put, List.setIfInBounds_toArray, List.set_cons_zero, List.set_cons_succ, Nat.reduceAdd, d1] at hK ⊢
      go_simp
      go_at_call 15
      have hc := tx_any a u H1.out
      refine hc.mono ?_
      clear hc
      rintro e u' ⟨rfl, hk9⟩
      dsimp only
      exact hK.out _ _ hk9 rfl
    case sb3 =>
      intro x u hg hd K hK
      have d2 : (x 2) = .string (tx a) := And.left hd
      clear hd
      have s9 : ¬ (9223372036854775807 : Nat) < 35 + (tx a).size := by omega
      refine ⟨?_⟩
      simp only [putsFrom, Act.put, List.setIfInBounds_toArray, List.set_cons_zero, List.set_cons_succ, Nat.reduceAdd, d2] at hK ⊢
      go_simp
      exact hK.out _ _ (Kp.refl _) rfl
    case sb4 =>
      intro x u hg hd K hK
      have d3 : (x 3) = .string (⟨#[114, 117, 110, 116, 105, 109, 101, 32, 101, 114, 114, 111, 114, 58, 32, 105, 110, 100, 101, 120, 32, 111, 117, 116, 32, 111, 102, 32, 114, 97, 110, 103, 101, 32, 91]⟩ ++ tx a) := And.left hd
      clear hd
      have s9 : ¬ (9223372036854775807 : Nat) < 35 + (tx a).size + 14 := by omega
      refine ⟨?_⟩
      simp only [putsFrom, Act.put, List.setIfInBounds_toArray, List.set_cons_zero, List.set_cons_succ, Nat.reduceAdd, d3] at hK ⊢
      go_simp
      exact hK.out _ _ (Kp.refl _) rfl
    case sb5 =>
      intro x u hg hd K hK
      clear hd
      refine ⟨?_⟩
      simp only [putsFrom, Act.put, List.setIfInBounds_toArray, List.set_cons_zero, List.set_cons_succ, Nat.reduceAdd] at hK ⊢
      go_simp
      exact hK.out _ _ (Kp.refl _) rfl
    case sb6 =>
      intro x u hg hd K hK
      have d5 : (x 5) = .pointer (some ⟨w.heap.size, 2, none⟩) := And.left hd
      clear hd
      have q9 := blk_cell (o := 2) (v := .int .i64 b) ((hg.block _ hlb).trans HB.out) rfl
      refine ⟨?_⟩
      simp only [putsFrom, Act.put, List.setIfInBounds_toArray, List.set_cons_zero, List.set_cons_succ, Nat.reduceAdd, d5] at hK ⊢
      go_simp
      exact hK.out _ _ (Kp.refl _) rfl
    case sb7 =>
      intro x u hg hd K hK
      have d6 : (x 6) = .int .i64 b := And.left hd
      clear hd
      refine ⟨?_⟩
      simp only [putsFrom, Act.put, List.setIfInBounds_toArray, List.set_cons_zero, List.set_cons_succ, Nat.reduceAdd, d6] at hK ⊢
      go_simp
      go_at_call 15
      have hc := tx_any b u H2.out
      refine hc.mono ?_
      clear hc
      rintro e u' ⟨rfl, hk9⟩
      dsimp only
      exact hK.out _ _ hk9 rfl
    case sb8 =>
      intro x u hg hd K hK
      have d4 : (x 4) = .string (⟨#[114, 117, 110, 116, 105, 109, 101, 32, 101, 114, 114, 111, 114, 58, 32, 105, 110, 100, 101, 120, 32, 111, 117, 116, 32, 111, 102, 32, 114, 97, 110, 103, 101, 32, 91]⟩ ++ tx a ++ ⟨#[93, 32, 119, 105, 116, 104, 32, 108, 101, 110, 103, 116, 104, 32]⟩) := And.left hd
      have d7 : (x 7) = .string (tx b) := And.left (And.right hd)
      clear hd
      have s9 : ¬ (9223372036854775807 : Nat) < 35 + (tx a).size + 14 + (tx b).size := by omega
      refine ⟨?_⟩
      simp only [putsFrom, Act.put, List.setIfInBounds_toArray, List.set_cons_zero, List.set_cons_succ, Nat.reduceAdd, d4, d7] at hK ⊢
      go_simp
      exact hK.out _ _ (Kp.refl _) rfl
    case sb9 =>
      intro x u hg hd K hK
      have d8 : (x 8) = .string (⟨#[114, 117, 110, 116, 105, 109, 101, 32, 101, 114, 114, 111, 114, 58, 32, 105, 110, 100, 101, 120, 32, 111, 117, 116, 32, 111, 102, 32, 114, 97, 110, 103, 101, 32, 91]⟩ ++ tx a ++ ⟨#[93, 32, 119, 105, 116, 104, 32, 108, 101, 110, 103, 116, 104, 32]⟩ ++ tx b) := And.left hd
      clear hd
      refine ⟨?_⟩
      simp only [putsFrom, Act.put, List.setIfInBounds_toArray, List.set_cons_zero, List.set_cons_succ, Nat.reduceAdd, d8] at hK ⊢
      go_simp
      exact hK.out _ _ (Kp.refl _) rfl
    intro x u hg he
    have d0 : (x 0) = .pointer (some ⟨w.heap.size, 1, none⟩) := And.left he
    have d1 : (x 1) = .int .i64 a := And.left (And.right he)
    have d2 : (x 2) = .string (tx a) := And.left (And.right (And.right he))
    have d3 : (x 3) = .string (⟨#[114, 117, 110, 116, 105, 109, 101, 32, 101, 114, 114, 111, 114, 58, 32, 105, 110, 100, 101, 120, 32, 111, 117, 116, 32, 111, 102, 32, 114, 97, 110, 103, 101, 32, 91]⟩ ++ tx a) := And.left (And.right (And.right (And.right he)))
    have d4 : (x 4) = .string (⟨#[114, 117, 110, 116, 105, 109, 101, 32, 101, 114, 114, 111, 114, 58, 32, 105, 110, 100, 101, 120, 32, 111, 117, 116, 32, 111, 102, 32, 114, 97, 110, 103, 101, 32, 91]⟩ ++ tx a ++ ⟨#[93, 32, 119, 105, 116, 104, 32, 108, 101, 110, 103, 116, 104, 32]⟩) := And.left (And.right (And.right (And.right (And.right he))))
    have d5 : (x 5) = .pointer (some ⟨w.heap.size, 2, none⟩) := And.left (And.right (And.right (And.right (And.right (And.right he)))))
    have d6 : (x 6) = .int .i64 b := And.left (And.right (And.right (And.right (And.right (And.right (And.right he))))))
    have d7 : (x 7) = .string (tx b) := And.left (And.right (And.right (And.right (And.right (And.right (And.right (And.right he)))))))
    have d8 : (x 8) = .string (⟨#[114, 117, 110, 116, 105, 109, 101, 32, 101, 114, 114, 111, 114, 58, 32, 105, 110, 100, 101, 120, 32, 111, 117, 116, 32, 111, 102, 32, 114, 97, 110, 103, 101, 32, 91]⟩ ++ tx a ++ ⟨#[93, 32, 119, 105, 116, 104, 32, 108, 101, 110, 103, 116, 104, 32]⟩ ++ tx b) := And.left (And.right (And.right (And.right (And.right (And.right (And.right (And.right (And.right he))))))))
    have d9 : (x 9) = .string (⟨#[114, 117, 110, 116, 105, 109, 101, 32, 101, 114, 114, 111, 114, 58, 32, 105, 110, 100, 101, 120, 32, 111, 117, 116, 32, 111, 102, 32, 114, 97, 110, 103, 101, 32, 91]⟩ ++ tx a ++ ⟨#[93, 32, 119, 105, 116, 104, 32, 108, 101, 110, 103, 116, 104, 32]⟩ ++ tx b) := And.left (And.right (And.right (And.right (And.right (And.right (And.right (And.right (And.right (And.right he)))))))))
    clear he
    refine ⟨?_⟩
    simp only [putsFrom, Act.put, List.setIfInBounds_toArray, List.set_cons_zero, List.set_cons_succ, Nat.reduceAdd, d0, d1, d2, d3, d4, d5, d6, d7, d8, d9]
    clear d0 d1 d2 d3 d4 d5 d6 d7 d8 d9
    have HG := hid hg
    clear hg
    go_wp2
    go_ret
    exact ⟨by rw [HE.out]; unfold tx; simp only [bapp]; exact rs rfl (by simp [cIx, cWl]), HK.out.trans HG.out⟩
  have t1 : (k == 1) = false := by rw [beq_eq_false_iff_ne]; exact h1
  by_cases h5 : k = 5
  · have t5 : (k == 5) = true := by simp [h5]
    have HE := hid (show textM ⟨k, a, b, c⟩ = boundsM a b c by unfold textM; rw [if_neg h1, if_pos h5])
    have HBD := hid (fun w => fbounds_any a b c H1.out H2.out H3.out w)
    rw [← HE.out] at HBD
    clear h1 h5 hx
    generalize (⟨(textM ⟨k, a, b, c⟩).toArray⟩ : ByteArray) = R at HBD ⊢
    go_enter Tryd.func6, Tryd.ntmps6
    go_wp2_with (go_at_call 16; go_must (refine (HBD.out _).mono ?_); rintro e w1 ⟨rfl, hk1⟩)
    go_ret
    exact ⟨rfl, HK.out.trans hk1⟩
  have t5 : (k == 5) = false := by rw [beq_eq_false_iff_ne]; exact h5
  by_cases h7 : k = 7
  · have t7 : (k == 7) = true := by simp [h7]
    have HE := hid (show textM ⟨k, a, b, c⟩ = cLn ++ (Lib.itoa a ++ (cAb ++ Lib.itoa b)) by unfold textM; rw [if_neg h1, if_neg h5, if_pos h7])
    clear h1 h5 h7 hx
    go_enter Tryd.func6, Tryd.ntmps6
    go_upto_region 7 with fail
    generalize (w.alloc (.cells #[.int .i64 k, .int .i64 a, .int .i64 b, .int .i64 c] 23)) = W at HK HB ⊢
    have hlb := blk_lt HB.out
    refine wp_region_kp [[], [0], [1], [2], [3], [], [5], [6], [4, 7], [8]] (fun u => Kp W u)
      [fun (y : Value) (u : World) => y = (.pointer (some ⟨w.heap.size, 1, none⟩) : Value),
       fun (y : Value) (u : World) => y = (.int .i64 a : Value),
       fun (y : Value) (u : World) => y = (.string (tx a) : Value),
       fun (y : Value) (u : World) => y = (.string (⟨#[114, 117, 110, 116, 105, 109, 101, 32, 101, 114, 114, 111, 114, 58, 32, 108, 101, 110, 103, 116, 104, 32]⟩ ++ tx a) : Value),
       fun (y : Value) (u : World) => y = (.string (⟨#[114, 117, 110, 116, 105, 109, 101, 32, 101, 114, 114, 111, 114, 58, 32, 108, 101, 110, 103, 116, 104, 32]⟩ ++ tx a ++ ⟨#[32, 105, 115, 32, 97, 98, 111, 118, 101, 32]⟩) : Value),
       fun (y : Value) (u : World) => y = (.pointer (some ⟨w.heap.size, 2, none⟩) : Value),
       fun (y : Value) (u : World) => y = (.int .i64 b : Value),
       fun (y : Value) (u : World) => y = (.string (tx b) : Value),
       fun (y : Value) (u : World) => y = (.string (⟨#[114, 117, 110, 116, 105, 109, 101, 32, 101, 114, 114, 111, 114, 58, 32, 108, 101, 110, 103, 116, 104, 32]⟩ ++ tx a ++ ⟨#[32, 105, 115, 32, 97, 98, 111, 118, 101, 32]⟩ ++ tx b) : Value),
       fun (y : Value) (u : World) => y = (.string (⟨#[114, 117, 110, 116, 105, 109, 101, 32, 101, 114, 114, 111, 114, 58, 32, 108, 101, 110, 103, 116, 104, 32]⟩ ++ tx a ++ ⟨#[32, 105, 115, 32, 97, 98, 111, 118, 101, 32]⟩ ++ tx b) : Value)]
      (by kernel_rfl) (by kernel_rfl) (by kernel_rfl) (by kernel_rfl) ((Kp.refl _).drew) (fun _ _ hk h => h.trans hk) ⟨fun _ _ _ _ h => h, fun _ _ _ _ h => h, fun _ _ _ _ h => h, fun _ _ _ _ h => h, fun _ _ _ _ h => h, fun _ _ _ _ h => h, fun _ _ _ _ h => h, fun _ _ _ _ h => h, fun _ _ _ _ h => h, fun _ _ _ _ h => h, trivial⟩ ⟨?sc0, ?sc1, ?sc2, ?sc3, ?sc4, ?sc5, ?sc6, ?sc7, ?sc8, ?sc9, trivial⟩ ?hEc
    case sc0 =>
      intro x u hg hd K hK
      clear hd
      refine ⟨?_⟩
      simp only [putsFrom, Act.put, List.setIfInBounds_toArray, List.set_cons_zero, List.set_cons_succ, Nat.reduceAdd] at hK ⊢
      go_simp
      exact hK.out _ _ (Kp.refl _) rfl
    case sc1 =>
      intro x u hg hd K hK
      have d0 : (x 0) = .pointer (some ⟨w.heap.size, 1, none⟩) := And.left hd
      clear hd
      have q9 := blk_cell (o := 1) (v := .int .i64 a) ((hg.block _ hlb).trans HB.out) rfl
      refine ⟨?_⟩
      simp only [putsFrom, Act.put, List.setIfInBounds_toArray, List.set_cons_zero, List.set_cons_succ, Nat.reduceAdd, d0] at hK ⊢
      go_simp
      exact hK.out _ _ (Kp.refl _) rfl
    case sc2 =>
      intro x u hg hd K hK
      have d1 : (x 1) = .int .i64 a := And.left hd
      clear hd
      refine ⟨?_⟩
      simp only [putsFrom, Act.put, List.setIfInBounds_toArray, List.set_cons_zero, List.set_cons_succ, Nat.reduceAdd, d1] at hK ⊢
      go_simp
      go_at_call 15
      have hc := tx_any a u H1.out
      refine hc.mono ?_
      clear hc
      rintro e u' ⟨rfl, hk9⟩
      dsimp only
      exact hK.out _ _ hk9 rfl
    case sc3 =>
      intro x u hg hd K hK
      have d2 : (x 2) = .string (tx a) := And.left hd
      clear hd
      have s9 : ¬ (9223372036854775807 : Nat) < 22 + (tx a).size := by omega
      refine ⟨?_⟩
      simp only [putsFrom, Act.put, List.setIfInBounds_toArray, List.set_cons_zero, List.set_cons_succ, Nat.reduceAdd, d2] at hK ⊢
      go_simp
      exact hK.out _ _ (Kp.refl _) rfl
    case sc4 =>
      intro x u hg hd K hK
      have d3 : (x 3) = .string (⟨#[114, 117, 110, 116, 105, 109, 101, 32, 101, 114, 114, 111, 114, 58, 32, 108, 101, 110, 103, 116, 104, 32]⟩ ++ tx a) := And.left hd
      clear hd
      have s9 : ¬ (9223372036854775807 : Nat) < 22 + (tx a).size + 10 := by omega
      refine ⟨?_⟩
      simp only [putsFrom, Act.put, List.setIfInBounds_toArray, List.set_cons_zero, List.set_cons_succ, Nat.reduceAdd, d3] at hK ⊢
      go_simp
      exact hK.out _ _ (Kp.refl _) rfl
    case sc5 =>
      intro x u hg hd K hK
      clear hd
      refine ⟨?_⟩
      simp only [putsFrom, Act.put, List.setIfInBounds_toArray, List.set_cons_zero, List.set_cons_succ, Nat.reduceAdd] at hK ⊢
      go_simp
      exact hK.out _ _ (Kp.refl _) rfl
    case sc6 =>
      intro x u hg hd K hK
      have d5 : (x 5) = .pointer (some ⟨w.heap.size, 2, none⟩) := And.left hd
      clear hd
      have q9 := blk_cell (o := 2) (v := .int .i64 b) ((hg.block _ hlb).trans HB.out) rfl
      refine ⟨?_⟩
      simp only [putsFrom, Act.put, List.setIfInBounds_toArray, List.set_cons_zero, List.set_cons_succ, Nat.reduceAdd, d5] at hK ⊢
      go_simp
      exact hK.out _ _ (Kp.refl _) rfl
    case sc7 =>
      intro x u hg hd K hK
      have d6 : (x 6) = .int .i64 b := And.left hd
      clear hd
      refine ⟨?_⟩
      simp only [putsFrom, Act.put, List.setIfInBounds_toArray, List.set_cons_zero, List.set_cons_succ, Nat.reduceAdd, d6] at hK ⊢
      go_simp
      go_at_call 15
      have hc := tx_any b u H2.out
      refine hc.mono ?_
      clear hc
      rintro e u' ⟨rfl, hk9⟩
      dsimp only
      exact hK.out _ _ hk9 rfl
    case sc8 =>
      intro x u hg hd K hK
      have d4 : (x 4) = .string (⟨#[114, 117, 110, 116, 105, 109, 101, 32, 101, 114, 114, 111, 114, 58, 32, 108, 101, 110, 103, 116, 104, 32]⟩ ++ tx a ++ ⟨#[32, 105, 115, 32, 97, 98, 111, 118, 101, 32]⟩) := And.left hd
      have d7 : (x 7) = .string (tx b) := And.left (And.right hd)
      clear hd
      have s9 : ¬ (9223372036854775807 : Nat) < 22 + (tx a).size + 10 + (tx b).size := by omega
      refine ⟨?_⟩
      simp only [putsFrom, Act.put, List.setIfInBounds_toArray, List.set_cons_zero, List.set_cons_succ, Nat.reduceAdd, d4, d7] at hK ⊢
      go_simp
      exact hK.out _ _ (Kp.refl _) rfl
    case sc9 =>
      intro x u hg hd K hK
      have d8 : (x 8) = .string (⟨#[114, 117, 110, 116, 105, 109, 101, 32, 101, 114, 114, 111, 114, 58, 32, 108, 101, 110, 103, 116, 104, 32]⟩ ++ tx a ++ ⟨#[32, 105, 115, 32, 97, 98, 111, 118, 101, 32]⟩ ++ tx b) := And.left hd
      clear hd
      refine ⟨?_⟩
      simp only [putsFrom, Act.put, List.setIfInBounds_toArray, List.set_cons_zero, List.set_cons_succ, Nat.reduceAdd, d8] at hK ⊢
      go_simp
      exact hK.out _ _ (Kp.refl _) rfl
    intro x u hg he
    have d0 : (x 0) = .pointer (some ⟨w.heap.size, 1, none⟩) := And.left he
    have d1 : (x 1) = .int .i64 a := And.left (And.right he)
    have d2 : (x 2) = .string (tx a) := And.left (And.right (And.right he))
    have d3 : (x 3) = .string (⟨#[114, 117, 110, 116, 105, 109, 101, 32, 101, 114, 114, 111, 114, 58, 32, 108, 101, 110, 103, 116, 104, 32]⟩ ++ tx a) := And.left (And.right (And.right (And.right he)))
    have d4 : (x 4) = .string (⟨#[114, 117, 110, 116, 105, 109, 101, 32, 101, 114, 114, 111, 114, 58, 32, 108, 101, 110, 103, 116, 104, 32]⟩ ++ tx a ++ ⟨#[32, 105, 115, 32, 97, 98, 111, 118, 101, 32]⟩) := And.left (And.right (And.right (And.right (And.right he))))
    have d5 : (x 5) = .pointer (some ⟨w.heap.size, 2, none⟩) := And.left (And.right (And.right (And.right (And.right (And.right he)))))
    have d6 : (x 6) = .int .i64 b := And.left (And.right (And.right (And.right (And.right (And.right (And.right he))))))
    have d7 : (x 7) = .string (tx b) := And.left (And.right (And.right (And.right (And.right (And.right (And.right (And.right he)))))))
    have d8 : (x 8) = .string (⟨#[114, 117, 110, 116, 105, 109, 101, 32, 101, 114, 114, 111, 114, 58, 32, 108, 101, 110, 103, 116, 104, 32]⟩ ++ tx a ++ ⟨#[32, 105, 115, 32, 97, 98, 111, 118, 101, 32]⟩ ++ tx b) := And.left (And.right (And.right (And.right (And.right (And.right (And.right (And.right (And.right he))))))))
    have d9 : (x 9) = .string (⟨#[114, 117, 110, 116, 105, 109, 101, 32, 101, 114, 114, 111, 114, 58, 32, 108, 101, 110, 103, 116, 104, 32]⟩ ++ tx a ++ ⟨#[32, 105, 115, 32, 97, 98, 111, 118, 101, 32]⟩ ++ tx b) := And.left (And.right (And.right (And.right (And.right (And.right (And.right (And.right (And.right (And.right he)))))))))
    clear he
    refine ⟨?_⟩
    simp only [putsFrom, Act.put, List.setIfInBounds_toArray, List.set_cons_zero, List.set_cons_succ, Nat.reduceAdd, d0, d1, d2, d3, d4, d5, d6, d7, d8, d9]
    clear d0 d1 d2 d3 d4 d5 d6 d7 d8 d9
    have HG := hid hg
    clear hg
    go_wp2
    go_ret
    exact ⟨by rw [HE.out]; unfold tx; simp only [bapp]; exact rs rfl (by simp [cLn, cAb]), HK.out.trans HG.out⟩
  have t7 : (k == 7) = false := by rw [beq_eq_false_iff_ne]; exact h7
  have HE := hid (show textM ⟨k, a, b, c⟩ = fixedM k by unfold textM; rw [if_neg h1, if_neg h5, if_neg h7])
  have HBD := hid (fun w => fixed_any k w)
  rw [← HE.out] at HBD
  clear h1 h5 h7 hx
  generalize (⟨(textM ⟨k, a, b, c⟩).toArray⟩ : ByteArray) = R at HBD ⊢
  go_enter Tryd.func6, Tryd.ntmps6
  go_wp2_with (go_at_call 17; go_must (refine (HBD.out _).mono ?_); rintro e w1 ⟨rfl, rfl⟩)
  go_ret
  exact ⟨rfl, HK.out⟩
end Go.Proofs.YtiicdknmoakocaaDoor
