/-
  Parts of the proof of a law: Types, StrL, Region, RegionL, RegionP, TypesU, TypesG, Nod, ParP, Reg, RegF, ScanW, Box, Row, App, RegionW. No condition.
-/
import Derived.Deep.QuietTactic
import Derived.BigQuiet
import Derived.StillTailTactics
import Derived.Deep.RegionHeld3
import Derived.Lib.SmallJoins
import Derived.BigFrame
import Derived.Test.YtcjgagmcnmmfoaaShelf
import Derived.Test.YtcjgagmcnmmfoaaPk1
set_option maxRecDepth 20000
set_option maxHeartbeats 16000000
set_option linter.unusedVariables false
set_option linter.unusedSimpArgs false
namespace Go.Proofs.Ytcjgagmcnmmfoaa.Ty
open Go.RowKit

def RdrAt (w : World) (rp : Nat) (S : ByteArray) (a : Nat) : Prop := w.heap[rp]? = some (.cells #[.string S, .int .i64 (a : Int)] 103 (0, 0))
theorem RdrAt.c0 {w : World} {rp : Nat} {S : ByteArray} {a : Nat} (h : RdrAt w rp S a) : w.cell? ⟨rp, 0, none⟩ = some (.string S) := by unfold RdrAt at h; simp [World.cell?, h]
theorem RdrAt.c1 {w : World} {rp : Nat} {S : ByteArray} {a : Nat} (h : RdrAt w rp S a) : w.cell? ⟨rp, 1, none⟩ = some (.int .i64 (a : Int)) := by unfold RdrAt at h; simp [World.cell?, h]
theorem RdrAt.f1 {w : World} {rp : Nat} {S : ByteArray} {a : Nat} (h : RdrAt w rp S a) : w.frozen? ⟨rp, 1, none⟩ = false := by unfold RdrAt at h; simp [World.frozen?, h]
def Rdk (rp : Nat) (S : ByteArray) (a : Nat) (w w' : World) : Prop := RdrAt w' rp S a ∧ w.grownBy w' (some rp)
theorem str_slice (S K : ByteArray) (a : Nat) (h : a + K.size ≤ S.size) : ((S.extract a (a + K.size)).toList == K.toList) = (pre K.data.toList (S.data.toList.drop a)).isSome := by
 have e1 : (S.extract a (a + K.size)).toList = (S.data.toList.drop a).take K.size := by
  rw [ByteArray.toList_eq, ByteArray.data_extract, Array.toList_extract, List.extract_eq_take_drop]
  congr 1; omega
 have e2 : K.size = K.data.toList.length := by rw [Array.length_toList]; rfl
 rw [e1, ByteArray.toList_eq, e2]
 unfold pre
 by_cases hk : List.take K.data.toList.length (S.data.toList.drop a) = K.data.toList
 ·rw [if_pos hk, hk]; simp
 ·rw [if_neg hk, beq_eq_false_iff_ne.2 hk]; rfl
theorem pre_fits {K S : ByteArray} {a : Nat} {r : Bs} (ha : a ≤ S.size) (h : pre K.data.toList (S.data.toList.drop a) = some r) : a + K.size ≤ S.size ∧ r = S.data.toList.drop (a + K.size) := by
 have e := pre_iff.1 h
 have hl := congrArg List.length e
 rw [List.length_drop, Array.length_toList, List.length_append, Array.length_toList] at hl
 have e1 : S.data.size = S.size := rfl
 have e2 : K.data.size = K.size := rfl
 refine ⟨by omega, ?_⟩
 rw [← List.drop_drop, e, show K.size = K.data.toList.length by rw [Array.length_toList]; rfl, List.drop_left]
theorem has_no (w : World) (rp : Nat) (S K : ByteArray) (a : Nat) (h : RdrAt w rp S a) (ha : a ≤ S.size) (hS : S.size ≤ 140737488351232) (hK : K.size ≤ 1000) (hp : pre K.data.toList (S.data.toList.drop a) = none) :
  Calls Try.prog 74 #[.pointer (some ⟨rp, 0, none⟩), .string K] w fun e w' => e = .returned (.bool false) ∧ Rdk rp S a w w' := by
 have c0 := h.c0; have c1 := h.c1
 have H := hid h
 clear h
 by_cases hlt : S.size < a + K.size
 ·have hd : decide (((S.size : Int) - (a : Int)) < (K.size : Int)) = true := by rw [decide_eq_true_eq]; omega
  have hw : IntKind.i64.wrap ((S.size : Int) - (a : Int)) = (S.size : Int) - (a : Int) := by rw [IntKind.wrap_i64]; omega
  clear hp
  go_enter Try.func74, Try.ntmps74
  go_wp2
  go_quiet (fail)
  go_wp2
  go_ret
  exact ⟨rfl, H.out, grown_drewN _ _ _⟩
 ·have hd : decide (((S.size : Int) - (a : Int)) < (K.size : Int)) = false := by rw [decide_eq_false_iff_not]; omega
  have hw : IntKind.i64.wrap ((S.size : Int) - (a : Int)) = (S.size : Int) - (a : Int) := by rw [IntKind.wrap_i64]; omega
  have hw2 : IntKind.i64.wrap ((a : Int) + (K.size : Int)) = (a : Int) + (K.size : Int) := by rw [IntKind.wrap_i64]; omega
  have hs := str_slice S K a (by omega)
  rw [hp] at hs
  have i1 : (0 : Int) ≤ (a : Int) := by omega
  have i2 : (a : Int) ≤ (a : Int) + (K.size : Int) := by omega
  have i3 : (a : Int) + (K.size : Int) ≤ (S.size : Int) := by omega
  have i4 : ((a : Int) + (K.size : Int)).toNat = a + K.size := by omega
  clear hp
  go_enter Try.func74, Try.ntmps74
  go_wp2
  go_quiet (fail)
  go_wp2
  go_ret
  exact ⟨rfl, H.out, grown_drewN _ _ _⟩
theorem has_yes (w : World) (rp : Nat) (S K : ByteArray) (a : Nat) (r : Bs) (h : RdrAt w rp S a) (ha : a ≤ S.size) (hS : S.size ≤ 140737488351232) (hK : K.size ≤ 1000) (hp : pre K.data.toList (S.data.toList.drop a) = some r) :
  Calls Try.prog 74 #[.pointer (some ⟨rp, 0, none⟩), .string K] w fun e w' => e = .returned (.bool true) ∧ Rdk rp S (a + K.size) w w' := by
 have c0 := h.c0; have c1 := h.c1; have f1 := h.f1
 have H := hid h
 obtain ⟨hle, _⟩ := pre_fits ha hp
 have hd : decide (((S.size : Int) - (a : Int)) < (K.size : Int)) = false := by rw [decide_eq_false_iff_not]; omega
 have hw : IntKind.i64.wrap ((S.size : Int) - (a : Int)) = (S.size : Int) - (a : Int) := by rw [IntKind.wrap_i64]; omega
 have hw2 : IntKind.i64.wrap ((a : Int) + (K.size : Int)) = (a : Int) + (K.size : Int) := by rw [IntKind.wrap_i64]; omega
 have hs := str_slice S K a hle
 rw [hp] at hs
 have i1 : (0 : Int) ≤ (a : Int) := by omega
 have i2 : (a : Int) ≤ (a : Int) + (K.size : Int) := by omega
 have i3 : (a : Int) + (K.size : Int) ≤ (S.size : Int) := by omega
 have i4 : ((a : Int) + (K.size : Int)).toNat = a + K.size := by omega
 clear hp h
 go_enter Try.func74, Try.ntmps74
 go_wp2
 go_quiet (fail)
 go_wp2
 go_ret
 refine ⟨rfl, blk_set (b := rp) (o := 1) H.out _, ((grown_drewN w nq _).trans (grown_setCell _))⟩
theorem has_to (w : World) (rp : Nat) (S K : ByteArray) (a c : Nat) (r : Bs) (h : RdrAt w rp S a) (ha : a ≤ S.size) (hS : S.size ≤ 140737488351232) (hK : K.size ≤ 1000) (hp : pre K.data.toList (S.data.toList.drop a) = some r) (hc : a + K.size = c) :
  Calls Try.prog 74 #[.pointer (some ⟨rp, 0, none⟩), .string K] w fun e w' => e = .returned (.bool true) ∧ Rdk rp S c w w' := by
 subst hc; exact has_yes w rp S K a r h ha hS hK hp
theorem nil_nil (w : World) : Sem.run Try.prog (binOp .neq 65 .nilFunc .nilFunc) w = .ok (.bool false) w := by kernel_rfl
def wordB : Nat → ByteArray
 | 0 => ⟨#[105, 110, 116]⟩
 | 1 => ⟨#[98, 111, 111, 108]⟩
 | 2 => ⟨#[115, 116, 114, 105, 110, 103]⟩
 | 3 => ⟨#[97, 110, 121]⟩
 | 4 => ⟨#[91, 93, 105, 110, 116]⟩
 | _ => ⟨#[42, 105, 110, 116]⟩
def wordsV : Array Value := #[.string (wordB 0), .string (wordB 1), .string (wordB 2), .string (wordB 3), .string (wordB 4), .string (wordB 5)]
theorem words_at : ∀ k, k < 6 → wordsV[k]? = some (.string (wordB k)) ∧ (wordB k).size ≤ 1000 ∧ tyWords.drop k = (wordB k).data.toList :: tyWords.drop (k + 1)
 | 0, _ => ⟨rfl, by decide, rfl⟩
 | 1, _ => ⟨rfl, by decide, rfl⟩
 | 2, _ => ⟨rfl, by decide, rfl⟩
 | 3, _ => ⟨rfl, by decide, rfl⟩
 | 4, _ => ⟨rfl, by decide, rfl⟩
 | 5, _ => ⟨rfl, by decide, rfl⟩
 | k + 6, h => by omega
def restOf (S : ByteArray) (a : Nat) : Bs := S.data.toList.drop a
def OneP (rp : Nat) (S : ByteArray) (w : World) (o : Option Bs) (e : Ending) (w' : World) : Prop := (∃ r, o = some r ∧ e = .returned (.bool true) ∧ Rdk rp S (S.size - r.length) w w') ∨ (o = none ∧ e = .returned (.bool false) ∧ w.grownBy w' (some rp))
def FunC (f : Nat) : Prop := ∀ (w : World) (rp : Nat) (S : ByteArray) (a : Nat), RdrAt w rp S a → a ≤ S.size → S.size ≤ 140737488351232 → S.size - a ≤ f →
 Calls Try.prog 75 #[.pointer (some ⟨rp, 0, none⟩), .nilFunc] w (OneP rp S w ((funM (oneM f) (restOf S a)).map (·.2)))
def OneC (f : Nat) : Prop := ∀ (w : World) (rp : Nat) (S : ByteArray) (a : Nat), RdrAt w rp S a → a ≤ S.size → S.size ≤ 140737488351232 → S.size - a < f →
 Calls Try.prog 70 #[.pointer (some ⟨rp, 0, none⟩)] w (OneP rp S w (oneM f (restOf S a)))
theorem OneP.yes {rp : Nat} {S : ByteArray} {w : World} {o : Option Bs} {r : Bs} {e : Ending} {w' : World} (h : OneP rp S w o e w') (ho : o = some r) : e = .returned (.bool true) ∧ Rdk rp S (S.size - r.length) w w' := by
 rcases h with ⟨r', h1, h2⟩ | ⟨h1, _⟩
 ·rw [ho] at h1; cases h1; exact h2
 ·rw [ho] at h1; cases h1
theorem OneP.no {rp : Nat} {S : ByteArray} {w : World} {o : Option Bs} {e : Ending} {w' : World} (h : OneP rp S w o e w') (ho : o = none) : e = .returned (.bool false) ∧ w.grownBy w' (some rp) := by
 rcases h with ⟨r', h1, h2⟩ | ⟨h1, h2⟩
 ·rw [ho] at h1; cases h1
 ·exact h2
theorem Rdk.trans {rp : Nat} {S : ByteArray} {a b : Nat} {w w1 w2 : World} (h : w.grownBy w1 (some rp)) (k : Rdk rp S b w1 w2) : Rdk rp S b w w2 := ⟨k.1, h.trans k.2⟩
theorem rest_pre {S K : ByteArray} {a : Nat} {r : Bs} (ha : a ≤ S.size) (h : pre K.data.toList (restOf S a) = some r) : S.size - r.length = a + K.size ∧ r = restOf S (a + K.size) ∧ a + K.size ≤ S.size := by
 obtain ⟨h1, h2⟩ := pre_fits ha h
 refine ⟨?_, h2, h1⟩
 rw [h2, List.length_drop, Array.length_toList]
 have : S.data.size = S.size := rfl
 omega
theorem wordF_cons (k : Bs) (ks : List Bs) (l : Bs) : wordF (k :: ks) l = (pre k l).or (wordF ks l) := rfl
theorem one_of (f : Nat) (hf : FunC f) : OneC (f + 1) := by
 intro w rp S a h ha hS hfu
 have HF := hid hf
 obtain ⟨l, hl⟩ : ∃ l, restOf S a = l := ⟨_, rfl⟩
 have HL := hid hl
 have H := hid h
 obtain ⟨o, ho⟩ : ∃ o, oneM (f + 1) l = o := ⟨_, rfl⟩
 have HO := hid ho
 rw [hl, ho]
 have hix : ∀ (k : Nat), k < 6 → ∀ w, Sem.run Try.prog (Instr.index 105 (.agg #[Value.string { data := #[105, 110, 116] }, Value.string { data := #[98, 111, 111, 108] }, Value.string { data := #[115, 116, 114, 105, 110, 103] }, Value.string { data := #[97, 110, 121] }, Value.string { data := #[91, 93, 105, 110, 116] }, Value.string { data := #[42, 105, 110, 116] }]) (.int .i64 (k : Int))) w = .ok (.string (wordB k)) w := fun k hk w =>
  run_index_arr Try.underlying105 (by kernel_rfl) rfl (by kernel_rfl) wordsV k hk _ (words_at k hk).1 w
 have HIX := hid hix
 clear hf hl h ho hix
 go_enter Try.func70, Try.ntmps70
 go_wp2
 go_loopw [6] (fun i wr => ∃ k : Nat, k ≤ 6 ∧ i = .int .i64 k ∧ Rdk rp S a w wr ∧ wordM l = wordF (tyWords.drop k) l) (fun i _ => 6 - (intOf i).toNat)
 case atStart => exact ⟨0, by omega, rfl, ⟨H.out, World.grownBy.refl _ _⟩, rfl⟩
 case round =>
  obtain ⟨k, hk, rfl, ⟨hr, hg⟩, hm⟩ := hrel
  have HR := hid hr; have HG := hid hg; have HM := hid hm
  clear hr hg hm
  by_cases hlt : k < 6
  ·have hi := HIX.out k hlt
   obtain ⟨_, hws, hwd⟩ := words_at k hlt
   obtain ⟨W, hW⟩ : ∃ W, wordB k = W := ⟨_, rfl⟩
   rw [hW] at hi hws hwd
   have HWD := hid hwd; have HWS := hid hws
   have i1 : (k : Int) < 6 := by omega
   clear hwd hW hws
   cases hp : pre W.data.toList l with
   | none =>
    have HP : Hid (pre W.data.toList (restOf S a) = none) := hid (by rw [HL.out]; exact hp)
    have HM2 : Hid (wordM l = wordF (tyWords.drop (k + 1)) l) := hid (by rw [HM.out, HWD.out, wordF_cons, hp]; rfl)
    clear hp
    go_wp2_with (go_at_call 74; go_must (refine (has_no _ rp S W a HR.out ha hS HWS.out HP.out).mono ?_); rintro e w1 ⟨rfl, hr1, hg1⟩)
    go_roundw
    case rel => exact ⟨k + 1, by omega, by go_num, ⟨hr1, HG.out.trans hg1⟩, HM2.out⟩
    case measure => simp [intOf]; omega
   | some r =>
    have HP : Hid (pre W.data.toList (restOf S a) = some r) := hid (by rw [HL.out]; exact hp)
    have HM2 : Hid (o = some r) := hid (by
     rw [← HO.out]; show (wordM l).or _ = _
     rw [HM.out, HWD.out, wordF_cons, hp]; rfl)
    clear hp
    go_wp2_with (go_at_call 74; go_must (refine (has_yes _ rp S W a r HR.out ha hS HWS.out HP.out).mono ?_); rintro e w1 ⟨rfl, hr1, hg1⟩)
    go_ret
    exact .inl ⟨r, HM2.out, rfl, by rw [(rest_pre ha HP.out).1]; exact hr1, HG.out.trans hg1⟩
  ·obtain rfl : k = 6 := by omega
   have HM2 : Hid (o = (funM (oneM f) (restOf S a)).map (·.2)) := hid (by
    rw [← HO.out, HL.out]; show (wordM l).or _ = _
    rw [HM.out]; rfl)
   cases hz : (funM (oneM f) (restOf S a)).map (·.2) with
   | none =>
    have HZ := hid hz
    rw [hz] at HM2
    clear hz
    go_wp2_with (go_at_call 75; go_must (refine ((HF.out _ rp S a HR.out ha hS (by omega)).mono fun _ _ h => h.no HZ.out).mono ?_); rintro e w1 ⟨rfl, hg1⟩)
    go_ret
    exact .inr ⟨HM2.out, rfl, HG.out.trans hg1⟩
   | some r =>
    have HZ := hid hz
    rw [hz] at HM2
    clear hz
    go_wp2_with (go_at_call 75; go_must (refine ((HF.out _ rp S a HR.out ha hS (by omega)).mono fun _ _ h => h.yes HZ.out).mono ?_); rintro e w1 ⟨rfl, hr1, hg1⟩)
    go_ret
    exact .inl ⟨r, HM2.out, rfl, hr1, HG.out.trans hg1⟩
def comB : ByteArray := ⟨#[44]⟩
def shutB : ByteArray := ⟨#[41]⟩
def funcB : ByteArray := ⟨#[102, 117, 110, 99, 40]⟩
def goOn (f n : Nat) (l : Bs) : Option (List Bs × Bs) := (argsM (oneM f) (4 - n) (n == 0) l).bind fun p => (resM (oneM f) p.2).map fun q => (p.1 ++ [q.1], q.2)
theorem goOn_shut {f n : Nat} {l r : Bs} (h : pre [41] l = some r) : goOn f n l = (resM (oneM f) r).map fun q => ([q.1], q.2) := by
 unfold goOn argsM; rw [h]; rfl
theorem goOn_full {f : Nat} {l : Bs} (h : pre [41] l = none) : goOn f 4 l = none := by
 unfold goOn argsM; rw [h]; rfl
theorem goOn_com {f n : Nat} {l : Bs} (h : pre [41] l = none) (h0 : 0 < n) (h4 : n < 4) (hc : pre [44] l = none) : goOn f n l = none := by
 unfold goOn argsM
 obtain ⟨m, hm⟩ : ∃ m, 4 - n = m + 1 := ⟨3 - n, by omega⟩
 have hb : (n == 0) = false := by simp; omega
 rw [h, hm, hb]; dsimp only
 rw [if_neg (by decide), hc]; rfl
theorem goOn_one {f n : Nat} {l l1 : Bs} (h : pre [41] l = none) (h4 : n < 4) (hc : (n = 0 ∧ l1 = l) ∨ (0 < n ∧ pre [44] l = some l1)) :
  goOn f n l = match oneM f l1 with | none => none | some r => (goOn f (n + 1) r).map fun q => (l1.take (l1.length - r.length) :: q.1, q.2) := by
 unfold goOn
 rw [argsM.eq_def]
 dsimp only
 obtain ⟨m, hm⟩ : ∃ m, 4 - n = m + 1 := ⟨3 - n, by omega⟩
 have hm2 : 4 - (n + 1) = m := by omega
 rw [h, hm, hm2]; dsimp only
 have e : (if (n == 0) = true then some l else pre [44] l) = some l1 := by
  rcases hc with ⟨rfl, rfl⟩ | ⟨h0, hc⟩
  ·rfl
  ·have hb : (n == 0) = false := by simp; omega
   rw [hb, if_neg (by decide), hc]
 rw [e]; dsimp only
 cases oneM f l1 with
 | none => rfl
 | some r =>
  dsimp only
  have hb : (n + 1 == 0) = false := by simp
  rw [hb]
  cases argsM (oneM f) m false r with
  | none => rfl
  | some p =>
   simp only [Option.map_some, Option.bind_some]
   cases resM (oneM f) p.2 <;> rfl
theorem funM_goOn {f : Nat} {l l1 : Bs} (h : pre bFunc l = some l1) : funM (oneM f) l = goOn f 0 l1 := by
 unfold funM goOn; rw [h]; rfl
theorem funM_no {one : Bs → Option Bs} {l : Bs} (h : pre bFunc l = none) : funM one l = none := by unfold funM; rw [h]; rfl
theorem rest_len {S : ByteArray} {a : Nat} (ha : a ≤ S.size) : (restOf S a).length = S.size - a := by
 unfold restOf; rw [List.length_drop, Array.length_toList]; rfl
theorem rest_one {f : Nat} {S : ByteArray} {a : Nat} {r : Bs} (ha : a ≤ S.size) (h : oneM f (restOf S a) = some r) : a < S.size - r.length ∧ S.size - r.length ≤ S.size ∧ restOf S (S.size - r.length) = r := by
 obtain ⟨p, hp, e⟩ := oneM_ends _ _ _ h
 have hl := rest_len ha
 rw [e, List.length_append] at hl
 have : 0 < p.length := by cases p with | nil => exact absurd rfl hp | cons _ _ => simp
 refine ⟨by omega, by omega, ?_⟩
 unfold restOf at e ⊢
 have : S.size - r.length = a + p.length := by omega
 rw [this, ← List.drop_drop, e, List.drop_left]
theorem resM_no {one : Bs → Option Bs} {l : Bs} (h : resB l = false) : resM one l = some ([], l) := by unfold resM; rw [if_neg (by rw [h]; decide)]
theorem resM_yes {one : Bs → Option Bs} {l : Bs} (h : resB l = true) : resM one l = (one l).map fun r => (l.take (l.length - r.length), r) := by unfold resM; rw [if_pos h]
theorem rest_cons {S : ByteArray} {c : Nat} (h : c < S.size) : restOf S c = S[c] :: restOf S (c + 1) := by
 unfold restOf; rw [List.drop_eq_getElem_cons (by rw [Array.length_toList]; exact h)]; rfl
theorem rest_nil {S : ByteArray} {c : Nat} (h : S.size ≤ c) : restOf S c = [] := List.drop_eq_nil_of_le (by rw [Array.length_toList]; exact h)
theorem byte_beq (x : UInt8) (n : Nat) (hn : n < 256) : ((x.toNat : Int) == n) = (x == UInt8.ofNat n) := by
 by_cases h : x = UInt8.ofNat n
 ·subst h; rw [beq_self_eq_true, beq_iff_eq]; rw [UInt8.toNat_ofNat']; omega
 ·rw [beq_eq_false_iff_ne.2 h, beq_eq_false_iff_ne]
  intro h2; apply h; apply UInt8.toNat_inj.1; rw [UInt8.toNat_ofNat']; omega
theorem res_cases (S : ByteArray) (c : Nat) : (S.size ≤ c ∧ resB (restOf S c) = false) ∨ (∃ h : c < S.size, (S[c]'h = 44 ∨ S[c]'h = 41) ∧ resB (restOf S c) = false) ∨ (∃ h : c < S.size, S[c]'h ≠ 44 ∧ S[c]'h ≠ 41 ∧ resB (restOf S c) = true) := by
 rcases Nat.lt_or_ge c S.size with h | h
 ·by_cases h1 : S[c] = 44
  ·exact .inr (.inl ⟨h, .inl h1, by rw [rest_cons h, h1]; rfl⟩)
  ·by_cases h2 : S[c] = 41
   ·exact .inr (.inl ⟨h, .inr h2, by rw [rest_cons h, h2]; rfl⟩)
   ·refine .inr (.inr ⟨h, h1, h2, ?_⟩)
    rw [rest_cons h]
    show (!(S[c] == 44 || S[c] == 41)) = true
    rw [beq_eq_false_iff_ne.2 h1, beq_eq_false_iff_ne.2 h2]; rfl
 ·exact .inl ⟨h, by rw [rest_nil h]; rfl⟩
theorem fun_of (f : Nat) (hf : OneC f) : FunC f := by
 intro w rp S a h ha hS hfu
 have NN := nil_nil
 have HF := hid hf
 obtain ⟨o, ho⟩ : ∃ o, (funM (oneM f) (restOf S a)).map (·.2) = o := ⟨_, rfl⟩
 have HO := hid ho
 have H := hid h
 rw [ho]
 clear hf ho h
 cases hp : pre bFunc (restOf S a) with
 | none =>
  have HP : Hid (pre funcB.data.toList (restOf S a) = none) := hid hp
  have HV : Hid (o = none) := hid (by rw [← HO.out, funM_no hp]; rfl)
  clear hp
  go_enter Try.func75, Try.ntmps75
  go_wp2_with (go_at_call 74; go_must (refine (has_no _ rp S funcB a H.out ha hS (by decide) HP.out).mono ?_); rintro e w1 ⟨rfl, hr1, hg1⟩)
  go_ret
  exact .inr ⟨HV.out, rfl, hg1⟩
 | some l1 =>
  have HP : Hid (pre funcB.data.toList (restOf S a) = some l1) := hid hp
  obtain ⟨_, hl1, hle1⟩ := rest_pre (K := funcB) ha hp
  have HG0 : Hid (o = (goOn f 0 (restOf S (a + funcB.size))).map (·.2)) := hid (by rw [← HO.out, funM_goOn hp, hl1])
  have HLE : Hid (a + funcB.size ≤ S.size ∧ S.size - (a + funcB.size) < f) := hid ⟨hle1, by have : funcB.size = 5 := rfl; omega⟩
  clear hp hl1 hle1
  go_enter Try.func75, Try.ntmps75
  go_wp2_with (go_at_call 74; go_must (refine (has_yes _ rp S funcB a l1 H.out ha hS (by decide) HP.out).mono ?_); rintro e w1 ⟨rfl, hr1, hg1⟩)
  go_loopw [5] (fun i wr => ∃ n b : Nat, n ≤ 4 ∧ i = .int .i64 n ∧ RdrAt wr rp S b ∧ w.grownBy wr (some rp) ∧ (b ≤ S.size ∧ S.size - b < f) ∧ o = (goOn f n (restOf S b)).map (·.2)) (fun i _ => 5 - (intOf i).toNat)
  case atStart => exact ⟨0, _, by omega, rfl, hr1, hg1, HLE.out, HG0.out⟩
  case round =>
   obtain ⟨n, b, hn, rfl, hr, hg, ⟨hb, hbf⟩, hm⟩ := hrel
   have HR := hid hr; have HG := hid hg; have HM := hid hm
   clear hr hg hm
   cases hs : pre [41] (restOf S b) with
   | some l2 =>
    have HS : Hid (pre shutB.data.toList (restOf S b) = some l2) := hid hs
    obtain ⟨_, hl2, hle2⟩ := rest_pre (K := shutB) hb hs
    have hO := HM.out
    rw [goOn_shut hs, hl2] at hO
    obtain ⟨c, hc⟩ : ∃ c, b + shutB.size = c := ⟨_, rfl⟩
    have HC := hid hc
    rw [hc] at hO hle2
    have hcb : b < c := by have : shutB.size = 1 := rfl; omega
    have hrl := rest_len hle2
    clear hs hl2 hc
    rcases res_cases S c with ⟨hge, hres⟩ | ⟨hlt, hx, hres⟩ | ⟨hlt, hx1, hx2, hres⟩
    ·have HV : Hid (o = some (restOf S c)) := hid (by rw [hO, resM_no hres]; rfl)
     have HL : Hid (S.size - (restOf S c).length = c) := hid (by omega)
     have i2 : decide (c < S.size) = false := decide_eq_false (by omega)
     clear hO hres hrl
     go_wp2_with fail
     refine (has_to _ rp S shutB b c l2 HR.out hb hS (by decide) HS.out HC.out).mono ?_
     rintro e w2 ⟨rfl, hr2, hg2⟩
     have HR2 := hid hr2
     have c0 := hr2.c0; have c1 := hr2.c1
     clear hr2
     go_wp2_with fail
     go_quiet (fail)
     go_wp2
     go_ret
     exact .inl ⟨_, HV.out, rfl, by rw [HL.out]; exact HR2.out, (HG.out.trans hg2).trans (grown_drewN _ _ _)⟩
    ·have HV : Hid (o = some (restOf S c)) := hid (by rw [hO, resM_no hres]; rfl)
     have HL : Hid (S.size - (restOf S c).length = c) := hid (by omega)
     have i2 : decide (c < S.size) = true := decide_eq_true (by omega)
     have i3 : (c : Int) < (S.size : Int) := by omega
     have i4 : (0 : Int) ≤ (c : Int) := by omega
     obtain ⟨x, hX⟩ : ∃ x, S[c] = x := ⟨_, rfl⟩
     rw [hX] at hx
     have b1 := byte_beq x 44 (by decide)
     have b2 := byte_beq x 41 (by decide)
     clear hO hres hrl
     rcases hx with rfl | rfl
     all_goals
      go_wp2_with fail
      refine (has_to _ rp S shutB b c l2 HR.out hb hS (by decide) HS.out HC.out).mono ?_
      rintro e w2 ⟨rfl, hr2, hg2⟩
      have HR2 := hid hr2
      have c0 := hr2.c0; have c1 := hr2.c1
      clear hr2
      go_wp2_with fail
      go_quiet (fail)
      go_wp2
      go_ret
      exact .inl ⟨_, HV.out, rfl, by rw [HL.out]; exact HR2.out, (HG.out.trans hg2).trans (grown_drewN _ _ _)⟩
    ·have i2 : decide (c < S.size) = true := decide_eq_true (by omega)
     have i3 : (c : Int) < (S.size : Int) := by omega
     have i4 : (0 : Int) ≤ (c : Int) := by omega
     obtain ⟨x, hX⟩ : ∃ x, S[c] = x := ⟨_, rfl⟩
     rw [hX] at hx1 hx2
     have b1 : ((x.toNat : Int) == 44) = false := (byte_beq x 44 (by decide)).trans (beq_eq_false_iff_ne.2 hx1)
     have b2 : ((x.toNat : Int) == 41) = false := (byte_beq x 41 (by decide)).trans (beq_eq_false_iff_ne.2 hx2)
     have b3 : ((x.toNat : Int) != 44) = true := by rw [bne, b1]; rfl
     have b4 : ((x.toNat : Int) != 41) = true := by rw [bne, b2]; rfl
     rw [resM_yes hres, Option.map_map, Option.map_map] at hO
     clear hres hx1 hx2 hrl
     cases hz : oneM f (restOf S c) with
     | none =>
      have HZ := hid hz
      have HV : Hid (o = none) := hid (by rw [hO, hz]; rfl)
      clear hz hO
      go_wp2_with fail
      refine (has_to _ rp S shutB b c l2 HR.out hb hS (by decide) HS.out HC.out).mono ?_
      rintro e w2 ⟨rfl, hr2, hg2⟩
      have HR2 := hid hr2
      have c0 := hr2.c0; have c1 := hr2.c1
      clear hr2
      go_wp2_with fail
      go_still_tail 36, (by kernel_rfl)
      change wpList _ _ _ _ _ w2.drew
      have HR3 : Hid (RdrAt w2.drew rp S c) := HR2
      have HG3 : Hid (w.grownBy w2.drew (some rp)) := hid ((HG.out.trans hg2).trans (grown_drew _ _))
      generalize w2.drew = w3 at *
      go_wp2_with (go_at_call 70; go_must (refine ((HF.out _ rp S c HR3.out hle2 hS (by omega)).mono fun _ _ h => h.no HZ.out).mono ?_); rintro e w4 ⟨rfl, hg4⟩)
      go_ret
      exact .inr ⟨HV.out, rfl, HG3.out.trans hg4⟩
     | some r =>
      have HZ := hid hz
      have HV : Hid (o = some r) := hid (by rw [hO, hz]; rfl)
      clear hz hO
      go_wp2_with fail
      refine (has_to _ rp S shutB b c l2 HR.out hb hS (by decide) HS.out HC.out).mono ?_
      rintro e w2 ⟨rfl, hr2, hg2⟩
      have HR2 := hid hr2
      have c0 := hr2.c0; have c1 := hr2.c1
      clear hr2
      go_wp2_with fail
      go_still_tail 36, (by kernel_rfl)
      change wpList _ _ _ _ _ w2.drew
      have HR3 : Hid (RdrAt w2.drew rp S c) := HR2
      have HG3 : Hid (w.grownBy w2.drew (some rp)) := hid ((HG.out.trans hg2).trans (grown_drew _ _))
      generalize w2.drew = w3 at *
      go_wp2_with (go_at_call 70; go_must (refine ((HF.out _ rp S c HR3.out hle2 hS (by omega)).mono fun _ _ h => h.yes HZ.out).mono ?_); rintro e w4 ⟨rfl, hr4, hg4⟩)
      go_ret
      exact .inl ⟨_, HV.out, rfl, hr4, HG3.out.trans hg4⟩
   | none =>
    have HS : Hid (pre shutB.data.toList (restOf S b) = none) := hid hs
    by_cases h4 : n = 4
    ·have HV : Hid (o = none) := hid (by rw [HM.out, h4, goOn_full hs]; rfl)
     subst h4
     clear hs
     go_wp2_with (go_at_call 74; go_must (refine (has_no _ rp S shutB b HR.out hb hS (by decide) HS.out).mono ?_); rintro e w2 ⟨rfl, hr2, hg2⟩)
     go_ret
     exact .inr ⟨HV.out, rfl, HG.out.trans hg2⟩
    ·have key : (0 < n ∧ pre [44] (restOf S b) = none) ∨ ∃ c, c ≤ S.size ∧ b ≤ c ∧ ((n = 0 ∧ c = b) ∨ (0 < n ∧ pre [44] (restOf S b) = some (restOf S c))) := by
      by_cases h0 : n = 0
      ·exact .inr ⟨b, hb, Nat.le_refl _, .inl ⟨h0, rfl⟩⟩
      ·cases hc : pre [44] (restOf S b) with
       | none => exact .inl ⟨by omega, rfl⟩
       | some l3 =>
        obtain ⟨_, h1, h2⟩ := rest_pre (K := comB) hb hc
        exact .inr ⟨b + 1, h2, by omega, .inr ⟨by omega, by rw [h1]; rfl⟩⟩
     rcases key with ⟨h0, hc⟩ | ⟨c, hcS, hbc, hcc⟩
     ·have HV : Hid (o = none) := hid (by rw [HM.out, goOn_com hs h0 (by omega) hc]; rfl)
      have HC : Hid (pre comB.data.toList (restOf S b) = none) := hid hc
      have e4 : ((n : Int) == 4) = false := by simp; omega
      have e0 : decide ((0 : Int) < (n : Int)) = true := by rw [decide_eq_true_eq]; omega
      clear hs hc
      go_wp2_with fail
      refine (has_no _ rp S shutB b HR.out hb hS (by decide) HS.out).mono ?_
      rintro e w2 ⟨rfl, hr2, hg2⟩
      have HR2 := hid hr2
      go_wp2_with fail
      refine (has_no _ rp S comB b HR2.out hb hS (by decide) HC.out).mono ?_
      rintro e w3 ⟨rfl, hr3, hg3⟩
      go_wp2_with fail
      go_ret
      exact .inr ⟨HV.out, rfl, (HG.out.trans hg2).trans hg3⟩
     ·have hO := HM.out
      rw [goOn_one (l1 := restOf S c) hs (by omega) (hcc.imp (fun h => ⟨h.1, by rw [h.2]⟩) id)] at hO
      have hcf : S.size - c < f := by omega
      have e4 : ((n : Int) == 4) = false := by simp; omega
      cases hz : oneM f (restOf S c) with
      | none =>
       have HZ := hid hz
       have HV : Hid (o = none) := hid (by rw [hO, hz]; rfl)
       clear hz hO hs
       rcases hcc with ⟨rfl, rfl⟩ | ⟨h0, hc⟩
       ·go_wp2_with fail
        refine (has_no _ rp S shutB c HR.out hb hS (by decide) HS.out).mono ?_
        rintro e w2 ⟨rfl, hr2, hg2⟩
        have c0 := hr2.c0; have c1 := hr2.c1
        have HR2 := hid hr2
        clear hr2
        go_wp2_with (go_at_call 70; go_must (refine ((HF.out _ rp S c HR2.out hcS hS hcf).mono fun _ _ h => h.no HZ.out).mono ?_); rintro e w4 ⟨rfl, hg4⟩)
        go_ret
        exact .inr ⟨HV.out, rfl, (HG.out.trans hg2).trans hg4⟩
       ·have e0 : decide ((0 : Int) < (n : Int)) = true := by rw [decide_eq_true_eq]; omega
        have HC : Hid (pre comB.data.toList (restOf S b) = some (restOf S c)) := hid hc
        obtain ⟨g1, g2, _⟩ := rest_pre (K := comB) hb hc
        have HCC : Hid (b + comB.size = c) := hid (by have := rest_len hcS; omega)
        clear hc g1 g2
        go_wp2_with fail
        refine (has_no _ rp S shutB b HR.out hb hS (by decide) HS.out).mono ?_
        rintro e w2 ⟨rfl, hr2, hg2⟩
        have HR2 := hid hr2
        clear hr2
        go_wp2_with fail
        refine (has_to _ rp S comB b c _ HR2.out hb hS (by decide) HC.out HCC.out).mono ?_
        rintro e w3 ⟨rfl, hr3, hg3⟩
        have c0 := hr3.c0; have c1 := hr3.c1
        have HR3 := hid hr3
        clear hr3
        go_wp2_with (go_at_call 70; go_must (refine ((HF.out _ rp S c HR3.out hcS hS hcf).mono fun _ _ h => h.no HZ.out).mono ?_); rintro e w4 ⟨rfl, hg4⟩)
        go_ret
        exact .inr ⟨HV.out, rfl, ((HG.out.trans hg2).trans hg3).trans hg4⟩
      | some r =>
       have HZ := hid hz
       obtain ⟨g1, g2, g3⟩ := rest_one hcS hz
       have HD : Hid (S.size - r.length ≤ S.size ∧ S.size - (S.size - r.length) < f) := hid ⟨g2, by omega⟩
       have HV : Hid (o = (goOn f (n + 1) (restOf S (S.size - r.length))).map (·.2)) := hid (by
        rw [hO, hz, g3]; dsimp only; rw [Option.map_map]; rfl)
       clear hz hO hs g1 g2 g3
       rcases hcc with ⟨rfl, rfl⟩ | ⟨h0, hc⟩
       ·go_wp2_with fail
        refine (has_no _ rp S shutB c HR.out hb hS (by decide) HS.out).mono ?_
        rintro e w2 ⟨rfl, hr2, hg2⟩
        have c0 := hr2.c0; have c1 := hr2.c1
        have HR2 := hid hr2
        clear hr2
        go_wp2_with (go_at_call 70; go_must (refine ((HF.out _ rp S c HR2.out hcS hS hcf).mono fun _ _ h => h.yes HZ.out).mono ?_); rintro e w4 ⟨rfl, hr4, hg4⟩)
        go_roundw
        case rel => exact ⟨1, S.size - r.length, by omega, by go_num, hr4, (HG.out.trans hg2).trans hg4, HD.out, HV.out⟩
        case measure => simp [intOf]
       ·have e0 : decide ((0 : Int) < (n : Int)) = true := by rw [decide_eq_true_eq]; omega
        have HC : Hid (pre comB.data.toList (restOf S b) = some (restOf S c)) := hid hc
        obtain ⟨g1, g2, _⟩ := rest_pre (K := comB) hb hc
        have HCC : Hid (b + comB.size = c) := hid (by have := rest_len hcS; omega)
        clear hc g1 g2
        go_wp2_with fail
        refine (has_no _ rp S shutB b HR.out hb hS (by decide) HS.out).mono ?_
        rintro e w2 ⟨rfl, hr2, hg2⟩
        have HR2 := hid hr2
        clear hr2
        go_wp2_with fail
        refine (has_to _ rp S comB b c _ HR2.out hb hS (by decide) HC.out HCC.out).mono ?_
        rintro e w3 ⟨rfl, hr3, hg3⟩
        have c0 := hr3.c0; have c1 := hr3.c1
        have HR3 := hid hr3
        clear hr3
        go_wp2_with (go_at_call 70; go_must (refine ((HF.out _ rp S c HR3.out hcS hS hcf).mono fun _ _ h => h.yes HZ.out).mono ?_); rintro e w4 ⟨rfl, hr4, hg4⟩)
        go_roundw
        case rel => exact ⟨n + 1, S.size - r.length, by omega, by go_num, hr4, ((HG.out.trans hg2).trans hg3).trans hg4, HD.out, HV.out⟩
        case measure => simp [intOf]; omega
theorem fun_one : ∀ f, FunC f ∧ OneC f
 | 0 => ⟨fun_of 0 (fun w rp S a _ _ _ h => absurd h (Nat.not_lt_zero _)), fun w rp S a _ _ _ h => absurd h (Nat.not_lt_zero _)⟩
 | f + 1 => by
  have h := one_of f (fun_one f).1
  exact ⟨fun_of (f + 1) h, h⟩
end Go.Proofs.Ytcjgagmcnmmfoaa.Ty

namespace Go.Proofs.Ytcjgagmcnmmfoaa
open Go.RowKit

def OwnS (w : World) (base : Nat) (v : Value) (ss : List ByteArray) : Prop := w.ownsRow base 9 1 v ss.length (ss.map Value.string)
theorem elStr : El Try.prog 84 9 (.string ⟨#[]⟩) 1 16 := El.mk_ Try.underlying84 (by kernel_rfl) rfl (by omega)
theorem OwnS.nil (w : World) (base : Nat) : OwnS w base (.slice none 0 0) [] := World.ownsRow_nil _ _ _ _
theorem ownsRow_kp {w w' : World} {base : Nat} {e : TypeId} {size n : Nat} {v : Value} {xs : List Value} (h : w.ownsRow base e size v n xs) (hk : Kp w w') : w'.ownsRow base e size v n xs := by
 refine World.ownsRow.kept h (row := none) ⟨hk.os, hk.tape, hk.output, hk.size, fun k hk1 _ => hk.block k hk1⟩ ?_
 rcases h.2 with ⟨rfl, _⟩ | ⟨g, cap, cur, rfl, _⟩
 ·exact .inl rfl
 ·exact .inr (by simp [Value.ownBlock])
theorem OwnS.kp {w w' : World} {base : Nat} {v : Value} {ss : List ByteArray} (h : OwnS w base v ss) (hk : Kp w w') : OwnS w' base v ss := ownsRow_kp h hk
theorem OwnS.snoc {w : World} {base : Nat} {v : Value} {ss : List ByteArray} {s : ByteArray} {cs : Array Value} (hcs : cs = #[.string s]) (h : w.ownsRow base 9 1 v (ss.length + 1) (ss.map Value.string ++ cs.toList)) : OwnS w base v (ss ++ [s]) := by
 subst hcs; unfold OwnS; rw [List.length_append, List.map_append]; exact h
end Go.Proofs.Ytcjgagmcnmmfoaa

namespace Go.Proofs.Ytcjgagmcnmmfoaa
open Go.RowKit

def upd (x : Nat → Value) (i : Nat) (v : Value) : Nat → Value := fun j => if j = i then v else x j
def mark (ls : Nat → Bool) (i : Nat) : Nat → Bool := fun j => if j = i then true else ls j
def putsFrom : List Oper → Nat → (Nat → Value) → Act → Act
 | [], _, _, a => a
 | o :: r, k, x, a => putsFrom r (k + 1) x (a.put o.dst (x k))
def dstsOf (l : List Oper) : List Tmp := l.filterMap (·.dst)
theorem put_same (a : Act) (d : Option Tmp) (u v : Value) : (a.put d u).put d v = a.put d v := by
 cases d with
 | none => rfl
 | some d => simp [Act.put]
theorem puts_put : ∀ (l : List Oper) (k : Nat) (x : Nat → Value) (a : Act) (d : Option Tmp) (v : Value), (∀ t, d = some t → t ∉ dstsOf l) → (putsFrom l k x a).put d v = putsFrom l k x (a.put d v)
 | [], _, _, _, _, _, _ => rfl
 | o :: r, k, x, a, d, v, h => by
  have h1 : ∀ t, d = some t → t ∉ dstsOf r := fun t e hm => h t e (by unfold dstsOf at *; cases ho : o.dst <;> simp_all)
  have h2 : ∀ t, o.dst = some t → d ≠ some t := fun t e hd => h t hd (by unfold dstsOf; simp [e])
  show (putsFrom r (k + 1) x (a.put o.dst (x k))).put d v = putsFrom r (k + 1) x ((a.put d v).put o.dst (x k))
  rw [puts_put r _ _ _ _ _ h1, Act.put_comm a (x k) v h2]
theorem puts_lt : ∀ (l : List Oper) (k i : Nat) (x : Nat → Value) (a : Act) (v : Value), i < k → putsFrom l k (upd x i v) a = putsFrom l k x a
 | [], _, _, _, _, _, _ => rfl
 | o :: r, k, i, x, a, v, h => by
  have e : upd x i v k = x k := by unfold upd; rw [if_neg (by omega)]
  show putsFrom r (k + 1) (upd x i v) (a.put o.dst (upd x i v k)) = putsFrom r (k + 1) x (a.put o.dst (x k))
  rw [e]; exact puts_lt r _ _ _ _ _ (by omega)
theorem puts_at : ∀ (l : List Oper) (k i : Nat) (x : Nat → Value) (a : Act) (v : Value) (o : Oper), l[i]? = some o → (dstsOf l).Nodup → (putsFrom l k x a).put o.dst v = putsFrom l k (upd x (k + i) v) a
 | [], _, _, _, _, _, _, h, _ => by simp at h
 | o' :: r, k, 0, x, a, v, o, h, hn => by
  simp only [List.getElem?_cons_zero, Option.some.injEq] at h
  subst h
  have h1 : ∀ t, o'.dst = some t → t ∉ dstsOf r := fun t e hm => by unfold dstsOf at *; simp [e] at hn; simp at hm; obtain ⟨y, hy⟩ := hm; exact hn.1 y hy.1 hy.2
  show (putsFrom r (k + 1) x (a.put o'.dst (x k))).put o'.dst v = putsFrom r (k + 1) (upd x k v) (a.put o'.dst (upd x k v k))
  have e : upd x k v k = v := by unfold upd; rw [if_pos rfl]
  rw [puts_put r _ _ _ _ _ h1, put_same, puts_lt r _ _ _ _ _ (by omega), e]
 | o' :: r, k, i + 1, x, a, v, o, h, hn => by
  have hn' : (dstsOf r).Nodup := by unfold dstsOf at *; cases ho : o'.dst <;> simp_all
  have e : upd x (k + (i + 1)) v k = x k := by unfold upd; rw [if_neg (by omega)]
  show (putsFrom r (k + 1) x (a.put o'.dst (x k))).put o.dst v = putsFrom r (k + 1) (upd x (k + (i + 1)) v) (a.put o'.dst (upd x (k + (i + 1)) v k))
  rw [e, puts_at r (k + 1) i x _ v o (by simpa using h) hn', show k + 1 + i = k + (i + 1) by omega]

theorem put_own (a : Act) (d : Option Tmp) : a.put d (d.elim undef fun d => a.tmps.getD d undef) = a := by
 cases d with
 | none => rfl
 | some d =>
  obtain ⟨t, df⟩ := a
  simp only [Act.put, Option.elim, Act.mk.injEq, and_true]
  apply Array.ext
  ·simp
  ·intro i h1 h2
   rw [Array.getElem_setIfInBounds]
   split
   ·rename_i h; subst h; simp [Array.getD, h2]
   ·rfl
def ownX (ops : List Oper) (a : Act) (i : Nat) : Value := ((ops[i]?).bind (·.dst)).elim undef fun d => a.tmps.getD d undef
theorem puts_own : ∀ (l : List Oper) (k : Nat) (x : Nat → Value) (a : Act), (∀ i o, l[i]? = some o → x (k + i) = o.dst.elim undef fun d => a.tmps.getD d undef) → putsFrom l k x a = a
 | [], _, _, _, _ => rfl
 | o :: r, k, x, a, h => by
  show putsFrom r (k + 1) x (a.put o.dst (x k)) = a
  have h0 := h 0 o rfl
  rw [Nat.add_zero] at h0
  rw [h0, put_own]
  exact puts_own r (k + 1) x a (fun i o' ho => by rw [show k + 1 + i = k + (i + 1) by omega]; exact h (i + 1) o' (by simpa using ho))
def OpStep (P : Program) (ops : Array Oper) (Q : Exit → Act → World → Prop) (a0 : Act) (D : Nat → List Nat) (G : World → Prop) (R : (Nat → Bool) → Nat → Value → World → Prop) (T : Nat → World → World → Prop) (i : Nat) (o : Oper) : Prop :=
 ∀ (ls : Nat → Bool) (x : Nat → Value) (w : World), ls i = false → G w → (∀ j ∈ D i, R ls j (x j) w) → ∀ K : Act → World → Prop,
  Shut (∀ v w', T i w w' → R (mark ls i) i v w' → K ((putsFrom ops.toList 0 x a0).put o.dst v) w') →
  if Region.wanted o (yielded ops (putsFrom ops.toList 0 x a0).tmps) = true then Oper.wp P o (putsFrom ops.toList 0 x a0) w K Q else K ((putsFrom ops.toList 0 x a0).put o.dst undef) w
def AllSteps (S : Nat → Oper → Prop) : Nat → List Oper → Prop
 | _, [] => True
 | k, o :: r => S k o ∧ AllSteps S (k + 1) r
theorem AllSteps.at_ {S : Nat → Oper → Prop} : ∀ {l : List Oper} {k i : Nat} {o : Oper}, AllSteps S k l → l[i]? = some o → S (k + i) o
 | [], _, _, _, _, h => by simp at h
 | o' :: r, k, 0, o, hs, h => by simp at h; subst h; exact hs.1
 | o' :: r, k, i + 1, o, hs, h => by
  have := AllSteps.at_ hs.2 (i := i) (by simpa using h)
  rwa [show k + 1 + i = k + (i + 1) by omega] at this
def edgesOk (ops : Array Oper) (D : Nat → List Nat) : Bool :=
 (List.range ops.size).all fun i => ((ops[i]?).map fun o => (o.after.all fun e => !Region.binds .any e || decide (e.on < i)) && ((D i).all fun j => o.after.any fun e => Region.binds .any e && e.on == j)).getD false
theorem edges_at {ops : Array Oper} {D : Nat → List Nat} (h : edgesOk ops D = true) {i : Nat} {o : Oper} (ho : ops[i]? = some o) :
  (∀ e ∈ o.after, Region.binds .any e = true → e.on < i) ∧ ∀ j ∈ D i, ∃ e ∈ o.after, Region.binds .any e = true ∧ e.on = j := by
 have hi : i < ops.size := (Array.getElem?_eq_some_iff.1 ho).1
 unfold edgesOk at h
 rw [List.all_eq_true] at h
 have := h i (List.mem_range.2 hi)
 rw [ho] at this
 simp only [Option.map_some, Option.getD_some, Bool.and_eq_true, Array.all_eq_true', Array.any_eq_true', List.all_eq_true, Bool.or_eq_true, Bool.not_eq_true', decide_eq_true_eq, beq_iff_eq] at this
 refine ⟨fun e he hb => ?_, fun j hj => ?_⟩
 ·rcases this.1 e he with h | h
  ·rw [hb] at h; cases h
  ·exact h
 ·obtain ⟨e, he, h1, h2⟩ := this.2 j hj
  exact ⟨e, he, h1, h2⟩

section
variable {P : Program} {ops : Array Oper} {Q : Exit → Act → World → Prop} {a0 : Act} {D : Nat → List Nat} {G : World → Prop} {R : (Nat → Bool) → Nat → Value → World → Prop} {T : Nat → World → World → Prop}
theorem wpAny_each (hn : (dstsOf ops.toList).Nodup) (he : edgesOk ops D = true) (hG : ∀ i w w', T i w w' → G w → G w')
  (hR : ∀ ls i j v w w', ls i = false → ls j = true → T i w w' → R ls j v w → R (mark ls i) j v w')
  (hS : AllSteps (OpStep P ops Q a0 D G R T) 0 ops.toList)
  (hE : ∀ x w, G w → (∀ ls, (∀ j, j < ops.size → ls j = true) → (∀ j, j < ops.size → R ls j (x j) w) → Q .normal (putsFrom ops.toList 0 x a0) w)) :
  ∀ (fuel : Nat) (listed : Array Bool) (ls : Nat → Bool) (x : Nat → Value) (w : World), listed.size = ops.size → (∀ j, j < ops.size → listed[j]? = some (ls j)) → listed.toList.count false ≤ fuel → G w → (∀ j, j < ops.size → ls j = true → R ls j (x j) w) →
   wpAny P .any ops Q fuel listed (putsFrom ops.toList 0 x a0) w := by
 have hnil : ∀ (listed : Array Bool) (ls : Nat → Bool), listed.size = ops.size → (∀ j, j < ops.size → listed[j]? = some (ls j)) → Region.ready .any ops listed = [] → ∀ j, j < ops.size → ls j = true := by
  intro listed ls hsz hl hr j
  induction j using Nat.strongRecOn with
  | ind j ih =>
   intro hj
   cases hlj : ls j with
   | true => rfl
   | false =>
    exfalso
    have ho : ops[j]? = some ops[j] := Array.getElem?_eq_getElem hj
    have : j ∈ Region.ready .any ops listed := mem_ready.2 ⟨by simp [Array.getD_eq_getD_getElem?, hl j hj, hlj], _, ho, fun e hea hb => by
     have h1 := (edges_at he ho).1 e hea hb
     simp [Array.getD_eq_getD_getElem?, hl e.on (by omega), ih e.on h1 (by omega)]⟩
    rw [hr] at this; cases this
 have hend : ∀ (listed : Array Bool) (ls : Nat → Bool) (x : Nat → Value) (w : World), listed.size = ops.size → (∀ j, j < ops.size → listed[j]? = some (ls j)) → G w → (∀ j, j < ops.size → ls j = true → R ls j (x j) w) → Region.ready .any ops listed = [] → Q .normal (putsFrom ops.toList 0 x a0) w := by
  intro listed ls x w hsz hl hg hr h0
  have hall := hnil listed ls hsz hl h0
  exact hE x w hg ls hall (fun j hj => hr j hj (hall j hj))
 intro fuel
 induction fuel with
 | zero =>
  intro listed ls x w hsz hl hc hg hr
  have h0 : Region.ready .any ops listed = [] := by
   rw [List.eq_nil_iff_forall_not_mem]
   intro j hj
   obtain ⟨h1, o, ho, _⟩ := mem_ready.1 hj
   have hjs : j < ops.size := (Array.getElem?_eq_some_iff.1 ho).1
   have h2 : false ∈ listed.toList := by
    have := hl j hjs
    rw [Array.getD_eq_getD_getElem?, this] at h1
    simp at h1
    rw [h1] at this
    rw [← Array.getElem?_toList] at this
    exact List.mem_of_getElem? this
   have := List.count_pos_iff.2 h2
   omega
  exact ⟨h0, hend listed ls x w hsz hl hg hr h0⟩
 | succ fuel ih =>
  intro listed ls x w hsz hl hc hg hr
  refine ⟨hend listed ls x w hsz hl hg hr, fun i hi => ?_⟩
  obtain ⟨h1, o, ho, hea⟩ := mem_ready.1 hi
  have his : i < ops.size := (Array.getElem?_eq_some_iff.1 ho).1
  have hli : ls i = false := by
   have := hl i his
   rw [Array.getD_eq_getD_getElem?, this] at h1
   simpa using h1
  have hst := AllSteps.at_ hS (i := i) (by rw [Array.getElem?_toList]; exact ho)
  rw [Nat.zero_add] at hst
  refine wpOp_step ho (fun K' hK => hst ls x w hli hg (fun j hj => ?_) K' (fun v w' hT hRv => hK _ _ ?_))
  ·obtain ⟨e, he1, he2, he3⟩ := (edges_at he ho).2 j hj
   have h2 := hea e he1 he2
   have hlt := (edges_at he ho).1 e he1 he2
   rw [he3] at h2 hlt
   have hjs : j < ops.size := by omega
   rw [Array.getD_eq_getD_getElem?, hl j hjs] at h2
   exact hr j hjs (by simpa using h2)
  ·have hpa := puts_at ops.toList 0 i x a0 v o (by rw [Array.getElem?_toList]; exact ho) hn
   rw [Nat.zero_add] at hpa
   rw [hpa]
   refine ih (listed.setIfInBounds i true) (mark ls i) (upd x i v) w' (by simpa using hsz) (fun j hj => ?_) ?_ (hG i w w' hT hg) (fun j hj hm => ?_)
   ·unfold mark
    by_cases hji : j = i
    ·subst hji; rw [if_pos rfl, Array.getElem?_setIfInBounds_self_of_lt (by omega)]
    ·rw [if_neg hji, Array.getElem?_setIfInBounds_ne (by omega)]; exact hl j hj
   ·have hil : i < listed.toList.length := by simp; omega
    have hgi : listed.toList[i] = false := by
     have := hl i his
     rw [hli, ← Array.getElem?_toList, List.getElem?_eq_getElem hil] at this
     exact Option.some.inj this
    have h3 : false ∈ listed.toList := by rw [← hgi]; exact List.getElem_mem hil
    have h4 := List.count_pos_iff.2 h3
    rw [Array.toList_setIfInBounds, List.count_set hil]
    rw [hgi, if_pos (by rfl), if_neg (by decide)]; omega
   ·by_cases hji : j = i
    ·subst hji; unfold upd; rw [if_pos rfl]; exact hRv
    ·have hlj : ls j = true := by unfold mark at hm; rwa [if_neg hji] at hm
     unfold upd; rw [if_neg hji]
     exact hR ls i j (x j) w w' hli hlj hT (hr j hj hlj)
theorem wp_region_each (a0 : Act) (D : Nat → List Nat) (G : World → Prop) (R : (Nat → Bool) → Nat → Value → World → Prop) (T : Nat → World → World → Prop) {id : Nat} {w : World} (hm : P.follows .mixedOrders = true) (hn : (dstsOf ops.toList).Nodup) (he : edgesOk ops D = true) (x0 : Nat → Value) (h0 : putsFrom ops.toList 0 x0 a0 = a0)
  (hw : G w.drew) (hG : ∀ i w w', T i w w' → G w → G w') (hR : ∀ ls i j v w w', ls i = false → ls j = true → T i w w' → R ls j v w → R (mark ls i) j v w')
  (hS : AllSteps (OpStep P ops Q a0 D G R T) 0 ops.toList)
  (hE : ∀ x w, G w → (∀ ls, (∀ j, j < ops.size → ls j = true) → (∀ j, j < ops.size → R ls j (x j) w) → Q .normal (putsFrom ops.toList 0 x a0) w)) :
  (Code.region id ops true).wp P Q a0 w := by
 refine wp_region_any hm ?_
 have := wpAny_each hn he hG hR hS hE ops.size (Array.replicate ops.size false) (fun _ => false) x0 w.drew (by simp) (fun j hj => by simp [hj]) (by simp) hw (fun j _ h => by cases h)
 rw [h0] at this
 exact this
end

def nodupB : List Tmp → Bool
 | [] => true
 | t :: l => !l.contains t && nodupB l
theorem nodup_of : ∀ {l : List Tmp}, nodupB l = true → l.Nodup
 | [], _ => List.nodup_nil
 | t :: l, h => by
  unfold nodupB at h
  simp only [Bool.and_eq_true, Bool.not_eq_true', List.contains_eq_mem, decide_eq_false_iff_not] at h
  exact List.nodup_cons.2 ⟨h.1, nodup_of h.2⟩
def StabAll : List (Value → World → Prop) → Prop
 | [] => True
 | r :: l => (∀ v w w', Kp w w' → r v w → r v w') ∧ StabAll l
def relAt (l : List (Value → World → Prop)) (j : Nat) : Value → World → Prop := l.getD j (fun _ _ => True)
theorem StabAll.at_ : ∀ {l : List (Value → World → Prop)} (j : Nat), StabAll l → ∀ v w w', Kp w w' → relAt l j v w → relAt l j v w'
 | [], _, _, _, _, _, _, _ => trivial
 | r :: l, 0, h, v, w, w', hk, hr => h.1 v w w' hk hr
 | r :: l, j + 1, h, v, w, w', hk, hr => StabAll.at_ j h.2 v w w' hk hr
def DepsAll (l : List (Value → World → Prop)) (x : Nat → Value) (w : World) : List Nat → Prop
 | [] => True
 | j :: r => relAt l j (x j) w ∧ DepsAll l x w r
theorem DepsAll.of {l : List (Value → World → Prop)} {x : Nat → Value} {w : World} : ∀ {d : List Nat}, (∀ j ∈ d, relAt l j (x j) w) → DepsAll l x w d
 | [], _ => trivial
 | j :: r, h => ⟨h j (List.mem_cons_self ..), DepsAll.of fun k hk => h k (List.mem_cons_of_mem _ hk)⟩
def EndAll (x : Nat → Value) (w : World) : Nat → List (Value → World → Prop) → Prop
 | _, [] => True
 | k, r :: l => r (x k) w ∧ EndAll x w (k + 1) l
theorem EndAll.of {x : Nat → Value} {w : World} : ∀ {l : List (Value → World → Prop)} {k : Nat}, (∀ j, j < l.length → relAt l j (x (k + j)) w) → EndAll x w k l
 | [], _, _ => trivial
 | r :: l, k, h => ⟨h 0 (by simp), EndAll.of fun j hj => by have := h (j + 1) (by simpa using hj); rwa [show k + (j + 1) = k + 1 + j by omega] at this⟩
structure EndGoal (Q : Exit → Act → World → Prop) (a : Act) (w : World) : Prop where
 go : Q .normal a w
structure OpGoal (P : Program) (ops : Array Oper) (Q : Exit → Act → World → Prop) (o : Oper) (a : Act) (w : World) (K : Act → World → Prop) : Prop where
 go : if Region.wanted o (yielded ops a.tmps) = true then Oper.wp P o a w K Q else K (a.put o.dst undef) w
def OpStepK (P : Program) (ops : Array Oper) (Q : Exit → Act → World → Prop) (a0 : Act) (D : List (List Nat)) (G : World → Prop) (Rl : List (Value → World → Prop)) (i : Nat) (o : Oper) : Prop :=
 ∀ (x : Nat → Value) (w : World), G w → DepsAll Rl x w (D.getD i []) → ∀ K : Act → World → Prop,
  Shut (∀ v w', Kp w w' → relAt Rl i v w' → K ((putsFrom ops.toList 0 x a0).put o.dst v) w') →
  OpGoal P ops Q o (putsFrom ops.toList 0 x a0) w K
theorem AllSteps.mono {S S' : Nat → Oper → Prop} (h : ∀ i o, S i o → S' i o) : ∀ {l : List Oper} {k : Nat}, AllSteps S k l → AllSteps S' k l
 | [], _, _ => trivial
 | o :: r, k, hs => ⟨h _ _ hs.1, AllSteps.mono h hs.2⟩
theorem wp_region_kp {P : Program} {ops : Array Oper} {Q : Exit → Act → World → Prop} {id : Nat} {a0 : Act} {w : World} (D : List (List Nat)) (G : World → Prop) (Rl : List (Value → World → Prop)) (hm : P.follows .mixedOrders = true) (hn : nodupB (dstsOf ops.toList) = true) (he : edgesOk ops (fun i => D.getD i []) = true) (hl : Rl.length = ops.size)
  (hw : G w.drew) (hG : ∀ w w', Kp w w' → G w → G w') (hR : StabAll Rl)
  (hS : AllSteps (OpStepK P ops Q a0 D G Rl) 0 ops.toList)
  (hE : ∀ x w, G w → EndAll x w 0 Rl → EndGoal Q (putsFrom ops.toList 0 x a0) w) :
  (Code.region id ops true).wp P Q a0 w := by
 refine wp_region_each a0 (fun i => D.getD i []) G (fun _ j v w => relAt Rl j v w) (fun _ w w' => Kp w w') hm (nodup_of hn) he (ownX ops.toList a0) (puts_own _ _ _ _ fun i o ho => by unfold ownX; rw [Nat.zero_add, ho]; rfl) hw (fun _ w w' => hG w w') (fun _ _ j v w w' _ _ hk hr => hR.at_ j v w w' hk hr) (hS.mono fun i o h => ?_) (fun x w hg ls hall hr => (hE x w hg (EndAll.of fun j hj => ?_)).go)
 ·intro ls x w _ hg hd K hK
  exact (h x w hg (DepsAll.of hd) K hK).go
 ·rw [Nat.zero_add]; exact hr j (by omega)
end Go.Proofs.Ytcjgagmcnmmfoaa

namespace Go.Proofs.Ytcjgagmcnmmfoaa
open Go.RowKit

section
variable {P : Program} {ops : Array Oper} {Q : Exit → Act → World → Prop} {a0 : Act} {D : Nat → List Nat} {I : (Nat → Bool) → (Nat → Value) → World → Prop}
theorem wpAny_inv (hn : (dstsOf ops.toList).Nodup) (he : edgesOk ops D = true)
  (hS : ∀ (i : Nat) (o : Oper) (ls : Nat → Bool) (x : Nat → Value) (w : World), ops[i]? = some o → ls i = false → (∀ j ∈ D i, ls j = true) → I ls x w → ∀ K : Act → World → Prop,
   Shut (∀ v w', I (mark ls i) (upd x i v) w' → K ((putsFrom ops.toList 0 x a0).put o.dst v) w') →
   if Region.wanted o (yielded ops (putsFrom ops.toList 0 x a0).tmps) = true then Oper.wp P o (putsFrom ops.toList 0 x a0) w K Q else K ((putsFrom ops.toList 0 x a0).put o.dst undef) w)
  (hE : ∀ ls x w, (∀ j, j < ops.size → ls j = true) → I ls x w → Q .normal (putsFrom ops.toList 0 x a0) w) :
  ∀ (fuel : Nat) (listed : Array Bool) (ls : Nat → Bool) (x : Nat → Value) (w : World), listed.size = ops.size → (∀ j, j < ops.size → listed[j]? = some (ls j)) → listed.toList.count false ≤ fuel → I ls x w →
   wpAny P .any ops Q fuel listed (putsFrom ops.toList 0 x a0) w := by
 have hnil : ∀ (listed : Array Bool) (ls : Nat → Bool), listed.size = ops.size → (∀ j, j < ops.size → listed[j]? = some (ls j)) → Region.ready .any ops listed = [] → ∀ j, j < ops.size → ls j = true := by
  intro listed ls hsz hl hr j
  induction j using Nat.strongRecOn with
  | ind j ih =>
   intro hj
   cases hlj : ls j with
   | true => rfl
   | false =>
    exfalso
    have ho : ops[j]? = some ops[j] := Array.getElem?_eq_getElem hj
    have : j ∈ Region.ready .any ops listed := mem_ready.2 ⟨by simp [Array.getD_eq_getD_getElem?, hl j hj, hlj], _, ho, fun e hea hb => by
     have h1 := (edges_at he ho).1 e hea hb
     simp [Array.getD_eq_getD_getElem?, hl e.on (by omega), ih e.on h1 (by omega)]⟩
    rw [hr] at this; cases this
 have hend : ∀ (listed : Array Bool) (ls : Nat → Bool) (x : Nat → Value) (w : World), listed.size = ops.size → (∀ j, j < ops.size → listed[j]? = some (ls j)) → I ls x w → Region.ready .any ops listed = [] → Q .normal (putsFrom ops.toList 0 x a0) w :=
  fun listed ls x w hsz hl hi h0 => hE ls x w (hnil listed ls hsz hl h0) hi
 intro fuel
 induction fuel with
 | zero =>
  intro listed ls x w hsz hl hc hi
  have h0 : Region.ready .any ops listed = [] := by
   rw [List.eq_nil_iff_forall_not_mem]
   intro j hj
   obtain ⟨h1, o, ho, _⟩ := mem_ready.1 hj
   have hjs : j < ops.size := (Array.getElem?_eq_some_iff.1 ho).1
   have h2 : false ∈ listed.toList := by
    have := hl j hjs
    rw [Array.getD_eq_getD_getElem?, this] at h1
    simp at h1
    rw [h1] at this
    rw [← Array.getElem?_toList] at this
    exact List.mem_of_getElem? this
   have := List.count_pos_iff.2 h2
   omega
  exact ⟨h0, hend listed ls x w hsz hl hi h0⟩
 | succ fuel ih =>
  intro listed ls x w hsz hl hc hI
  refine ⟨hend listed ls x w hsz hl hI, fun i hi => ?_⟩
  obtain ⟨h1, o, ho, hea⟩ := mem_ready.1 hi
  have his : i < ops.size := (Array.getElem?_eq_some_iff.1 ho).1
  have hli : ls i = false := by
   have := hl i his
   rw [Array.getD_eq_getD_getElem?, this] at h1
   simpa using h1
  refine wpOp_step ho (fun K' hK => hS i o ls x w ho hli (fun j hj => ?_) hI K' (fun v w' hT => hK _ _ ?_))
  ·obtain ⟨e, he1, he2, he3⟩ := (edges_at he ho).2 j hj
   have h2 := hea e he1 he2
   have hlt := (edges_at he ho).1 e he1 he2
   rw [he3] at h2 hlt
   have hjs : j < ops.size := by omega
   rw [Array.getD_eq_getD_getElem?, hl j hjs] at h2
   simpa using h2
  ·have hpa := puts_at ops.toList 0 i x a0 v o (by rw [Array.getElem?_toList]; exact ho) hn
   rw [Nat.zero_add] at hpa
   rw [hpa]
   refine ih (listed.setIfInBounds i true) (mark ls i) (upd x i v) w' (by simpa using hsz) (fun j hj => ?_) ?_ hT
   ·unfold mark
    by_cases hji : j = i
    ·subst hji; rw [if_pos rfl, Array.getElem?_setIfInBounds_self_of_lt (by omega)]
    ·rw [if_neg hji, Array.getElem?_setIfInBounds_ne (by omega)]; exact hl j hj
   ·have hil : i < listed.toList.length := by simp; omega
    have hgi : listed.toList[i] = false := by
     have := hl i his
     rw [hli, ← Array.getElem?_toList, List.getElem?_eq_getElem hil] at this
     exact Option.some.inj this
    have h3 : false ∈ listed.toList := by rw [← hgi]; exact List.getElem_mem hil
    have h4 := List.count_pos_iff.2 h3
    rw [Array.toList_setIfInBounds, List.count_set hil]
    rw [hgi, if_pos (by rfl), if_neg (by decide)]; omega
theorem wp_region_inv (a0 : Act) (D : Nat → List Nat) (I : (Nat → Bool) → (Nat → Value) → World → Prop) {id : Nat} {w : World} (hm : P.follows .mixedOrders = true) (hn : (dstsOf ops.toList).Nodup) (he : edgesOk ops D = true)
  (h0 : I (fun _ => false) (ownX ops.toList a0) w.drew)
  (hS : ∀ (i : Nat) (o : Oper) (ls : Nat → Bool) (x : Nat → Value) (w : World), ops[i]? = some o → ls i = false → (∀ j ∈ D i, ls j = true) → I ls x w → ∀ K : Act → World → Prop,
   Shut (∀ v w', I (mark ls i) (upd x i v) w' → K ((putsFrom ops.toList 0 x a0).put o.dst v) w') →
   if Region.wanted o (yielded ops (putsFrom ops.toList 0 x a0).tmps) = true then Oper.wp P o (putsFrom ops.toList 0 x a0) w K Q else K ((putsFrom ops.toList 0 x a0).put o.dst undef) w)
  (hE : ∀ ls x w, (∀ j, j < ops.size → ls j = true) → I ls x w → Q .normal (putsFrom ops.toList 0 x a0) w) :
  (Code.region id ops true).wp P Q a0 w := by
 refine wp_region_any hm ?_
 have := wpAny_inv hn he hS hE ops.size (Array.replicate ops.size false) (fun _ => false) (ownX ops.toList a0) w.drew (by simp) (fun j hj => by simp [hj]) (by simp) h0
 rw [puts_own _ _ _ _ fun i o ho => by unfold ownX; rw [Nat.zero_add, ho]; rfl] at this
 exact this
end
def lastB (N : Nat) (D : List (List Nat)) : Bool := (List.range N).all fun k => (List.range (N + 1)).any fun j => decide (k < j) && (D.getD j []).contains k
theorem last_all {N : Nat} {D : List (List Nat)} (h : lastB N D = true) {ls : Nat → Bool} (hc : ∀ i j, ls i = true → j ∈ D.getD i [] → ls j = true) (hl : ls N = true) : ∀ k, k ≤ N → ls k = true := by
 have key : ∀ m k, N - k ≤ m → k ≤ N → ls k = true := by
  intro m
  induction m with
  | zero =>
   intro k h1 h2
   have e : k = N := by omega
   rw [e]; exact hl
  | succ m ih =>
   intro k h1 h2
   rcases Nat.lt_or_ge k N with hk | hk
   ·unfold lastB at h
    have h3 := List.all_eq_true.1 h k (List.mem_range.2 hk)
    obtain ⟨j, hj, h4⟩ := List.any_eq_true.1 h3
    rw [Bool.and_eq_true, decide_eq_true_eq, List.contains_iff_mem] at h4
    have hj' := List.mem_range.1 hj
    exact hc j k (ih j (by omega) (by omega)) h4.2
   ·have e : k = N := by omega
    rw [e]; exact hl
 exact fun k hk => key (N - k) k (Nat.le_refl _) hk
def OpLast (P : Program) (ops : Array Oper) (Q : Exit → Act → World → Prop) (a0 : Act) (G : World → Prop) (Rl : List (Value → World → Prop)) (i : Nat) (o : Oper) : Prop :=
 ∀ (x : Nat → Value) (w : World), G w → EndAll x w 0 Rl → ∀ K : Act → World → Prop,
  Shut (∀ v w', EndGoal Q ((putsFrom ops.toList 0 x a0).put o.dst v) w' → K ((putsFrom ops.toList 0 x a0).put o.dst v) w') →
  OpGoal P ops Q o (putsFrom ops.toList 0 x a0) w K
theorem wp_region_last {P : Program} {ops : Array Oper} {Q : Exit → Act → World → Prop} {id : Nat} {a0 : Act} {w : World} (N : Nat) (D : List (List Nat)) (G : World → Prop) (Rl : List (Value → World → Prop)) (hm : P.follows .mixedOrders = true) (hn : nodupB (dstsOf ops.toList) = true) (he : edgesOk ops (fun i => D.getD i []) = true) (hl : Rl.length = N) (hN : ops.size = N + 1) (hr : lastB N D = true)
  (hw : G w.drew) (hG : ∀ w w', Kp w w' → G w → G w') (hR : StabAll Rl)
  (hS : AllSteps (OpStepK P ops Q a0 D G Rl) 0 (ops.toList.take N))
  (hE : AllSteps (OpLast P ops Q a0 G Rl) N (ops.toList.drop N)) :
  (Code.region id ops true).wp P Q a0 w := by
 refine wp_region_inv a0 (fun i => D.getD i []) (fun ls x w => (∀ i j, ls i = true → j ∈ D.getD i [] → ls j = true) ∧ (ls N = true → Q .normal (putsFrom ops.toList 0 x a0) w) ∧ (ls N = false → G w ∧ ∀ j, j < N → ls j = true → relAt Rl j (x j) w)) hm (nodup_of hn) he ⟨fun i j h => by (cases h), fun h => by (cases h), fun _ => ⟨hw, fun j _ h => by (cases h)⟩⟩ ?_ (fun ls x w hall hI => hI.2.1 (hall N (by omega)))
 intro i o ls x w ho hli hd hI K hK
 have his : i < ops.size := (Array.getElem?_eq_some_iff.1 ho).1
 have hcl : ∀ i' j, mark ls i i' = true → j ∈ D.getD i' [] → mark ls i j = true := by
  intro i' j h1 h2
  unfold mark at h1 ⊢
  by_cases hj : j = i
  ·rw [if_pos hj]
  ·rw [if_neg hj]
   by_cases hi : i' = i
   ·subst hi; exact hd j h2
   ·rw [if_neg hi] at h1; exact hI.1 i' j h1 h2
 cases hlN : ls N with
 | true => exact absurd (last_all hr hI.1 hlN i (by omega)) (by rw [hli]; decide)
 | false =>
  obtain ⟨hg, hrel⟩ := hI.2.2 hlN
  by_cases hiN : i = N
  ·subst hiN
   have hall : ∀ k, k < i → ls k = true := fun k hk => by
    have := last_all hr hcl (by unfold mark; rw [if_pos rfl]) k (by omega)
    unfold mark at this; rwa [if_neg (by omega)] at this
   have hst := AllSteps.at_ hE (i := 0) (o := o) (by rw [List.getElem?_drop, Nat.add_zero, Array.getElem?_toList]; exact ho)
   refine (hst x w hg (EndAll.of fun j hj => ?_) K (fun v w' hq => hK v w' ⟨hcl, fun _ => ?_, fun h => ?_⟩)).go
   ·rw [Nat.zero_add]; exact hrel j (by omega) (hall j (by omega))
   ·have hpa := puts_at ops.toList 0 i x a0 v o (by rw [Array.getElem?_toList]; exact ho) (nodup_of hn)
    rw [Nat.zero_add] at hpa
    rw [← hpa]; exact hq.go
   ·unfold mark at h; rw [if_pos rfl] at h; cases h
  ·have ho' : (ops.toList.take N)[i]? = some o := by
    rw [List.getElem?_take, if_pos (by omega), Array.getElem?_toList]; exact ho
   have hst := AllSteps.at_ hS (i := i) ho'
   rw [Nat.zero_add] at hst
   refine (hst x w hg (DepsAll.of fun j hj => ?_) K (fun v w' hk hv => hK v w' ⟨hcl, fun h => ?_, fun _ => ⟨hG _ _ hk hg, fun j hj hm' => ?_⟩⟩)).go
   ·have hj2 := (edges_at he ho).2 j hj
    obtain ⟨e, he1, he2, he3⟩ := hj2
    have := (edges_at he ho).1 e he1 he2
    exact hrel j (by omega) (hd j hj)
   ·unfold mark at h; rw [if_neg (by omega), hlN] at h; cases h
   ·by_cases hji : j = i
    ·subst hji; unfold upd; rw [if_pos rfl]; exact hv
    ·unfold mark at hm'; rw [if_neg hji] at hm'
     unfold upd; rw [if_neg hji]
     exact hR.at_ j _ _ _ hk (hrel j hj hm')
end Go.Proofs.Ytcjgagmcnmmfoaa

namespace Go.Proofs.Ytcjgagmcnmmfoaa
open Go.RowKit

def ancs : List (List Nat) → List Nat → List Nat
 | [], acc => acc
 | d :: r, acc => ancs r (acc ++ [d.foldl (fun m j => m ||| (1 <<< j) ||| acc.getD j 0) 0])
def ancOf (D : List (List Nat)) : List Nat := ancs D []
theorem fold_bit (acc : List Nat) : ∀ (d : List Nat) (m k : Nat), (d.foldl (fun m j => m ||| (1 <<< j) ||| acc.getD j 0) m).testBit k = true → m.testBit k = true ∨ ∃ j ∈ d, k = j ∨ (acc.getD j 0).testBit k = true
 | [], m, k, h => .inl h
 | j :: d, m, k, h => by
  rcases fold_bit acc d _ k h with h | ⟨j', h1, h2⟩
  ·rw [Nat.testBit_or, Nat.testBit_or, Bool.or_eq_true, Bool.or_eq_true] at h
   rcases h with (h | h) | h
   ·exact .inl h
   ·refine .inr ⟨j, List.mem_cons_self .., .inl ?_⟩
    rw [Nat.one_shiftLeft, Nat.testBit_two_pow] at h
    exact (of_decide_eq_true h).symm
   ·exact .inr ⟨j, List.mem_cons_self .., .inr h⟩
  ·exact .inr ⟨j', List.mem_cons_of_mem _ h1, h2⟩
theorem ancs_ok {ls : Nat → Bool} {D : List (List Nat)} (hc : ∀ i j, ls i = true → j ∈ D.getD i [] → ls j = true) :
  ∀ (r : List (List Nat)) (acc : List Nat) (done : List (List Nat)), D = done ++ r → acc.length = done.length → (∀ i, (∀ j ∈ D.getD i [], ls j = true) → ∀ k, (acc.getD i 0).testBit k = true → ls k = true) →
   ∀ i, (∀ j ∈ D.getD i [], ls j = true) → ∀ k, ((ancs r acc).getD i 0).testBit k = true → ls k = true
 | [], acc, done, _, _, h => h
 | d :: r, acc, done, e, hl, h => by
  unfold ancs
  refine ancs_ok hc r _ (done ++ [d]) (by rw [e]; simp) (by simp [hl]) ?_
  intro i hi k hk
  rw [List.getD_eq_getElem?_getD] at hk
  rcases Nat.lt_or_ge i acc.length with h1 | h1
  ·rw [List.getElem?_append_left h1, ← List.getD_eq_getElem?_getD] at hk
   exact h i hi k hk
  ·rcases Nat.eq_or_lt_of_le h1 with h2 | h2
   ·rw [List.getElem?_append_right h1, ← h2, Nat.sub_self] at hk
    simp only [List.getElem?_cons_zero, Option.getD_some] at hk
    have hd : D.getD i [] = d := by
     rw [e, List.getD_eq_getElem?_getD, List.getElem?_append_right (by omega), ← h2, hl, Nat.sub_self]; rfl
    rcases fold_bit acc d 0 k hk with h3 | ⟨j, h3, h4⟩
    ·simp at h3
    ·have hj := hi j (by rw [hd]; exact h3)
     rcases h4 with rfl | h4
     ·exact hj
     ·exact h j (fun j' hj' => hc j j' hj hj') k h4
   ·rw [List.getElem?_eq_none (by simp; omega)] at hk
    simp at hk
theorem anc_ok {ls : Nat → Bool} {D : List (List Nat)} (hc : ∀ i j, ls i = true → j ∈ D.getD i [] → ls j = true) (i : Nat) (hi : ∀ j ∈ D.getD i [], ls j = true) (k : Nat) (hk : ((ancOf D).getD i 0).testBit k = true) : ls k = true :=
 ancs_ok hc D [] [] rfl rfl (fun i _ k h => by simp at h) i hi k hk
def phB (N : Nat) (A : List Nat) (Ms : List Nat) (ph : List (Nat × Nat)) : Bool :=
 ((List.range N).all fun i => (Ms.contains i) || ((decide ((ph.getD i (0, 0)).1 = 0) || (decide ((ph.getD i (0, 0)).1 ≤ Ms.length) && (A.getD i 0).testBit (Ms.getD ((ph.getD i (0, 0)).1 - 1) 0))) && (decide ((ph.getD i (0, 0)).2 = Ms.length) || (decide ((ph.getD i (0, 0)).2 < Ms.length) && (A.getD (Ms.getD (ph.getD i (0, 0)).2 0) 0).testBit i)))) &&
 ((List.range Ms.length).all fun k => decide (Ms.getD k 0 < N) && (decide (k = 0) || (A.getD (Ms.getD k 0) 0).testBit (Ms.getD (k - 1) 0)))
def OpStepQ (P : Program) (ops : Array Oper) (Q : Exit → Act → World → Prop) (a0 : Act) (D : List (List Nat)) (Ms : List Nat) (ph : List (Nat × Nat)) (G : Nat → (Nat → Value) → World → Prop) (Rl : List (Value → World → Prop)) (T : World → World → Prop) (i : Nat) (o : Oper) : Prop :=
 if Ms.contains i then
  ∀ (x : Nat → Value) (w : World), G (Ms.idxOf i) x w → DepsAll Rl x w (D.getD i []) → ∀ K : Act → World → Prop,
   Shut (∀ v w', T w w' → G (Ms.idxOf i + 1) (upd x i v) w' → relAt Rl i v w' → K ((putsFrom ops.toList 0 x a0).put o.dst v) w') →
   OpGoal P ops Q o (putsFrom ops.toList 0 x a0) w K
 else
  ∀ (x : Nat → Value) (w : World) (p : Nat), ((ph.getD i (0, 0)).1 ≤ p ∧ p ≤ (ph.getD i (0, 0)).2) → G p x w → DepsAll Rl x w (D.getD i []) → ∀ K : Act → World → Prop,
   Shut (∀ v w', Kp w w' → relAt Rl i v w' → K ((putsFrom ops.toList 0 x a0).put o.dst v) w') →
   OpGoal P ops Q o (putsFrom ops.toList 0 x a0) w K
def StabT (T : World → World → Prop) : List (Value → World → Prop) → Prop
 | [] => True
 | r :: l => (∀ v w w', T w w' → r v w → r v w') ∧ StabT T l
theorem StabT.at_ {T : World → World → Prop} : ∀ {l : List (Value → World → Prop)} (j : Nat), StabT T l → ∀ v w w', T w w' → relAt l j v w → relAt l j v w'
 | [], _, _, _, _, _, _, _ => trivial
 | r :: l, 0, h, v, w, w', hk, hr => h.1 v w w' hk hr
 | r :: l, j + 1, h, v, w, w', hk, hr => StabT.at_ j h.2 v w w' hk hr
theorem wp_region_phase {P : Program} {ops : Array Oper} {Q : Exit → Act → World → Prop} {id : Nat} {a0 : Act} {w : World} (Ms : List Nat) (ph : List (Nat × Nat)) (T : World → World → Prop) (D : List (List Nat)) (G : Nat → (Nat → Value) → World → Prop) (Rl : List (Value → World → Prop)) (hm : P.follows .mixedOrders = true) (hn : nodupB (dstsOf ops.toList) = true) (he : edgesOk ops (fun i => D.getD i []) = true) (hl : Rl.length = ops.size)
  (hMs : nodupB Ms = true) (hph : phB ops.size (ancOf D) Ms ph = true) (hT : ∀ w w', Kp w w' → T w w')
  (hw : G 0 (ownX ops.toList a0) w.drew) (hG : ∀ p x w w', Kp w w' → G p x w → G p x w') (hGx : ∀ p x i v w, i ∉ Ms → G p x w → G p (upd x i v) w) (hR : StabT T Rl)
  (hS : AllSteps (OpStepQ P ops Q a0 D Ms ph G Rl T) 0 ops.toList)
  (hE : ∀ x w, G Ms.length x w → EndAll x w 0 Rl → EndGoal Q (putsFrom ops.toList 0 x a0) w) :
  (Code.region id ops true).wp P Q a0 w := by
 have hMn := nodup_of hMs
 unfold phB at hph
 rw [Bool.and_eq_true] at hph
 obtain ⟨hph1, hph2⟩ := hph
 have hM : ∀ k, k < Ms.length → Ms.getD k 0 < ops.size ∧ (k = 0 ∨ ((ancOf D).getD (Ms.getD k 0) 0).testBit (Ms.getD (k - 1) 0) = true) := by
  intro k hk
  have := List.all_eq_true.1 hph2 k (List.mem_range.2 hk)
  simpa using this
 refine wp_region_inv a0 (fun i => D.getD i []) (fun ls x w => (∀ i j, ls i = true → j ∈ D.getD i [] → ls j = true) ∧ (∃ p, p ≤ Ms.length ∧ (∀ k, k < Ms.length → ls (Ms.getD k 0) = decide (k < p)) ∧ G p x w) ∧ ∀ j, j < ops.size → ls j = true → relAt Rl j (x j) w) hm (nodup_of hn) he
  ⟨fun i j h => by (cases h), ⟨0, Nat.zero_le _, fun k _ => by simp, hw⟩, fun j _ h => by (cases h)⟩ ?_ ?_
 ·intro i o ls x w ho hli hd hI K hK
  obtain ⟨hcl, ⟨p, hp, hpk, hg⟩, hrel⟩ := hI
  have his : i < ops.size := (Array.getElem?_eq_some_iff.1 ho).1
  have hcl' : ∀ i' j, mark ls i i' = true → j ∈ D.getD i' [] → mark ls i j = true := by
   intro i' j h1 h2
   unfold mark at h1 ⊢
   by_cases hj : j = i
   ·rw [if_pos hj]
   ·rw [if_neg hj]
    by_cases hi : i' = i
    ·subst hi; exact hd j h2
    ·rw [if_neg hi] at h1; exact hcl i' j h1 h2
  have hst := AllSteps.at_ hS (i := i) (by rw [Array.getElem?_toList]; exact ho)
  rw [Nat.zero_add] at hst
  unfold OpStepQ at hst
  have hdeps : DepsAll Rl x w (D.getD i []) := DepsAll.of fun j hj => by
   obtain ⟨e, he1, he2, he3⟩ := (edges_at he ho).2 j hj
   have := (edges_at he ho).1 e he1 he2
   exact hrel j (by omega) (hd j hj)
  by_cases hiM : i ∈ Ms
  ·rw [if_pos (by rw [List.contains_iff_mem]; exact hiM)] at hst
   have hk : Ms.idxOf i < Ms.length := List.idxOf_lt_length_of_mem hiM
   have hget : Ms.getD (Ms.idxOf i) 0 = i := by
    rw [List.getD_eq_getElem?_getD, List.getElem?_eq_getElem hk]; exact List.getElem_idxOf hk
   have e1 : p = Ms.idxOf i := by
    have h1 := hpk _ hk
    rw [hget, hli] at h1
    have h1 := of_decide_eq_false h1.symm
    rcases Nat.eq_zero_or_pos (Ms.idxOf i) with h0 | h0
    ·omega
    ·have h2 := (hM _ hk).2
     rcases h2 with h2 | h2
     ·omega
     ·rw [hget] at h2
      have h3 := anc_ok hcl i hd _ h2
      rw [hpk _ (by omega)] at h3
      have := of_decide_eq_true h3
      omega
   subst e1
   refine (hst x w hg hdeps K (fun v w' ht hg' hv => hK v w' ⟨hcl', ⟨Ms.idxOf i + 1, hk, fun k hk' => ?_, hg'⟩, fun j hj hm' => ?_⟩)).go
   ·unfold mark
    by_cases hki : k = Ms.idxOf i
    ·subst hki; rw [if_pos hget]; simp
    ·have hne : Ms.getD k 0 ≠ i := by
      intro h
      apply hki
      have h5 : Ms[k]'hk' = i := by rw [List.getD_eq_getElem?_getD, List.getElem?_eq_getElem hk'] at h; exact h
      rw [← h5, hMn.idxOf_getElem]
     rw [if_neg hne, hpk k hk']
     congr 1
     simp only [eq_iff_iff]; omega
   ·by_cases hji : j = i
    ·subst hji; unfold upd; rw [if_pos rfl]; exact hv
    ·unfold mark at hm'; rw [if_neg hji] at hm'
     unfold upd; rw [if_neg hji]
     exact hR.at_ j _ _ _ ht (hrel j hj hm')
  ·rw [if_neg (by rw [List.contains_iff_mem]; exact hiM)] at hst
   have h1 := List.all_eq_true.1 hph1 i (List.mem_range.2 his)
   rw [Bool.or_eq_true, List.contains_iff_mem] at h1
   have h1 := h1.resolve_left hiM
   rw [Bool.and_eq_true, Bool.or_eq_true, Bool.or_eq_true, Bool.and_eq_true, Bool.and_eq_true] at h1
   simp only [decide_eq_true_eq] at h1
   obtain ⟨h1, h2⟩ := h1
   have hpp : (ph.getD i (0, 0)).1 ≤ p ∧ p ≤ (ph.getD i (0, 0)).2 := by
    constructor
    ·rcases h1 with h1 | ⟨h1, h3⟩
     ·omega
     ·rcases Nat.eq_zero_or_pos (ph.getD i (0, 0)).1 with h0 | h0
      ·omega
      ·have h4 := anc_ok hcl i hd _ h3
       rw [hpk _ (by omega)] at h4
       have := of_decide_eq_true h4
       omega
    ·rcases h2 with h2 | ⟨h2, h3⟩
     ·omega
     ·rcases Nat.lt_or_ge (ph.getD i (0, 0)).2 p with h4 | h4
      ·exfalso
       have h5 := hpk _ h2
       rw [decide_eq_true h4] at h5
       have h6 := anc_ok hcl _ (fun j hj => hcl _ j h5 hj) _ h3
       rw [hli] at h6; cases h6
      ·exact h4
   refine (hst x w p hpp hg hdeps K (fun v w' hk hv => hK v w' ⟨hcl', ⟨p, hp, fun k hk' => ?_, hGx _ _ _ _ _ hiM (hG _ _ _ _ hk hg)⟩, fun j hj hm' => ?_⟩)).go
   ·have hne : Ms.getD k 0 ≠ i := by
     intro h
     apply hiM
     rw [← h, List.getD_eq_getElem?_getD, List.getElem?_eq_getElem hk']
     exact List.getElem_mem hk'
    unfold mark; rw [if_neg hne, hpk k hk']
   ·by_cases hji : j = i
    ·subst hji; unfold upd; rw [if_pos rfl]; exact hv
    ·unfold mark at hm'; rw [if_neg hji] at hm'
     unfold upd; rw [if_neg hji]
     exact hR.at_ j _ _ _ (hT _ _ hk) (hrel j hj hm')
 ·intro ls x w hall ⟨hcl, ⟨p, hp, hpk, hg⟩, hrel⟩
  have e : p = Ms.length := by
   rcases Nat.lt_or_ge p Ms.length with h | h
   ·have h1 := hpk p h
    rw [hall _ (hM p h).1] at h1
    have := of_decide_eq_true h1.symm
    omega
   ·omega
  subst e
  exact (hE x w hg (EndAll.of fun j hj => by rw [Nat.zero_add]; exact hrel j (by omega) (hall j (by omega)))).go
theorem OpStepQ.off {P : Program} {ops : Array Oper} {Q : Exit → Act → World → Prop} {a0 : Act} {D : List (List Nat)} {Ms : List Nat} {ph : List (Nat × Nat)} {G : Nat → (Nat → Value) → World → Prop} {Rl : List (Value → World → Prop)} {T : World → World → Prop} {i : Nat} {o : Oper} (lo hi : Nat) (hc : Ms.contains i = false) (hp : ph.getD i (0, 0) = (lo, hi))
  (h : ∀ (x : Nat → Value) (w : World) (p : Nat), (lo ≤ p ∧ p ≤ hi) → G p x w → DepsAll Rl x w (D.getD i []) → ∀ K : Act → World → Prop,
   Shut (∀ v w', Kp w w' → relAt Rl i v w' → K ((putsFrom ops.toList 0 x a0).put o.dst v) w') →
   OpGoal P ops Q o (putsFrom ops.toList 0 x a0) w K) : OpStepQ P ops Q a0 D Ms ph G Rl T i o := by
 unfold OpStepQ; rw [if_neg (by rw [hc]; decide), hp]; exact h
theorem OpStepQ.on {P : Program} {ops : Array Oper} {Q : Exit → Act → World → Prop} {a0 : Act} {D : List (List Nat)} {Ms : List Nat} {ph : List (Nat × Nat)} {G : Nat → (Nat → Value) → World → Prop} {Rl : List (Value → World → Prop)} {T : World → World → Prop} {i : Nat} {o : Oper} (k : Nat) (hc : Ms.contains i = true) (hk : Ms.idxOf i = k)
  (h : ∀ (x : Nat → Value) (w : World), G k x w → DepsAll Rl x w (D.getD i []) → ∀ K : Act → World → Prop,
   Shut (∀ v w', T w w' → G (k + 1) (upd x i v) w' → relAt Rl i v w' → K ((putsFrom ops.toList 0 x a0).put o.dst v) w') →
   OpGoal P ops Q o (putsFrom ops.toList 0 x a0) w K) : OpStepQ P ops Q a0 D Ms ph G Rl T i o := by
 unfold OpStepQ; rw [if_pos hc, hk]; exact h
end Go.Proofs.Ytcjgagmcnmmfoaa

namespace Go.Proofs.Ytcjgagmcnmmfoaa.Ty
open Go.RowKit

def bsB (l : Bs) : ByteArray := ⟨l.toArray⟩
theorem rest0 (S : ByteArray) : restOf S 0 = S.data.toList := rfl
theorem size_len (S : ByteArray) : S.data.toList.length = S.size := by rw [Array.length_toList]; rfl
theorem one_zero {S : ByteArray} {r : Bs} {f : Nat} (h : oneM f (restOf S 0) = some r) : S.size - r.length = S.size ↔ r = [] := by
 have := rest_one (Nat.zero_le _) h
 have h2 := rest_len (S := S) (a := S.size - r.length) (by omega)
 rw [this.2.2] at h2
 constructor
 ·intro h3; exact List.eq_nil_of_length_eq_zero (by omega)
 ·rintro rfl; rfl
theorem valid_any (w : World) (S : ByteArray) (hS : S.size ≤ 140737488351232) : Calls Try.prog 54 #[.string S] w fun e w' => e = .returned (.bool (validB S.data.toList)) ∧ Kp w w' := by
 by_cases hl : S.size ≤ 100
 ·have h1 : decide (100 < S.size) = false := decide_eq_false (by omega)
  have h2 : ¬ ((100 : Int) < (S.size : Int)) := by omega
  have hr : RdrAt (w.alloc (.cells #[.string S, .int .i64 0] 103)) w.heap.size S 0 := blk_new _ _
  have HR := hid hr
  clear hr
  cases hz : oneM 101 (restOf S 0) with
  | none =>
   have HV : Hid (validB S.data.toList = false) := hid (by unfold validB; rw [← rest0, hz]; simp)
   have HZ := hid hz
   clear hz
   go_enter Try.func54, Try.ntmps54
   go_wp2_with (go_at_call 70; go_must (refine (((fun_one 101).2 _ w.heap.size S 0 HR.out (Nat.zero_le _) hS (by omega)).mono fun _ _ h => h.no HZ.out).mono ?_); rintro e w1 ⟨rfl, hg1⟩)
   go_ret
   exact ⟨ret_bool HV.out.symm, Below.one ((Kp.refl w).alloc _) hg1 (Nat.le_refl _) (by simp)⟩
  | some r =>
   have HZ := hid hz
   have hoz := one_zero hz
   have hle := (rest_one (Nat.zero_le _) hz).2.1
   by_cases h0 : r = []
   ·have HV : Hid (validB S.data.toList = true) := hid (by unfold validB; rw [← rest0, hz, h0, rest0, size_len]; simp [hl])
    have ha : S.size - r.length = S.size := hoz.2 h0
    have HA := hid ha
    clear hz hoz ha h0
    go_enter Try.func54, Try.ntmps54
    go_wp2_with (go_at_call 70; go_must (refine (((fun_one 101).2 _ w.heap.size S 0 HR.out (Nat.zero_le _) hS (by omega)).mono fun _ _ h => h.yes HZ.out).mono ?_); rintro e w1 ⟨rfl, hr1, hg1⟩; rw [HA.out] at hr1; have c1 := hr1.c1)
    go_ret
    exact ⟨ret_bool HV.out.symm, Below.one ((Kp.refl w).alloc _) hg1 (Nat.le_refl _) (by simp)⟩
   ·have HV : Hid (validB S.data.toList = false) := hid (by unfold validB; rw [← rest0, hz]; simp [h0])
    obtain ⟨a, ha⟩ : ∃ a, S.size - r.length = a := ⟨_, rfl⟩
    have HA := hid ha
    have hne : ((a : Int) == (S.size : Int)) = false := by rw [beq_eq_false_iff_ne]; intro h; apply h0; apply hoz.1; omega
    have hne2 : (a == S.size) = false := by rw [beq_eq_false_iff_ne]; intro h; apply h0; apply hoz.1; omega
    clear hz hoz ha h0
    go_enter Try.func54, Try.ntmps54
    go_wp2_with (go_at_call 70; go_must (refine (((fun_one 101).2 _ w.heap.size S 0 HR.out (Nat.zero_le _) hS (by omega)).mono fun _ _ h => h.yes HZ.out).mono ?_); rintro e w1 ⟨rfl, hr1, hg1⟩; rw [HA.out] at hr1; have c1 := hr1.c1)
    go_ret
    exact ⟨ret_bool HV.out.symm, Below.one ((Kp.refl w).alloc _) hg1 (Nat.le_refl _) (by simp)⟩
 ·have h2 : (100 : Int) < (S.size : Int) := by omega
  have HV : Hid (validB S.data.toList = false) := hid (by unfold validB; rw [size_len]; simp [hl])
  go_enter Try.func54, Try.ntmps54
  go_wp2
  go_ret
  exact ⟨ret_bool HV.out.symm, Kp.refl _⟩
def RdS (w : World) (v : Value) (l : List ByteArray) : Prop := ∃ A c, v = .slice A l.length c ∧ l.length ≤ c ∧ ∀ i x, l[i]? = some x → ∃ b off, A = some ⟨b, off, none⟩ ∧ b < w.heap.size ∧ w.cell? ⟨b, off + i, none⟩ = some (.string x)
theorem RdS.kp {w w' : World} {v : Value} {l : List ByteArray} (h : RdS w v l) (hk : Kp w w') : RdS w' v l := by
 obtain ⟨A, c, h1, h2, h3⟩ := h
 refine ⟨A, c, h1, h2, fun i x hi => ?_⟩
 obtain ⟨b, off, e, hb, hc⟩ := h3 i x hi
 exact ⟨b, off, e, Nat.lt_of_lt_of_le hb hk.le, cell_kp hk hb hc⟩
end Go.Proofs.Ytcjgagmcnmmfoaa.Ty

namespace Go.Proofs.Ytcjgagmcnmmfoaa.Ty
open Go.RowKit

def partsOf (l : List ByteArray) : List Bs := l.map (·.data.toList)
def madeB (l : List ByteArray) (R : ByteArray) : Bs := bFunc ++ (glue true (partsOf l) ++ ([41] ++ R.data.toList))
def funcM (l : List ByteArray) (R : ByteArray) : Bs × Int :=
 if 4 < l.length then ([], 15) else if (partsOf l).all validB = false then ([], 9) else if (!(R.data.toList == [])) && !validB R.data.toList then ([], 9) else if 100 < (madeB l R).length then ([], 1) else (madeB l R, 0)
def headS (l : List ByteArray) (k : Nat) : Bs := bFunc ++ glue true (partsOf (l.take k))
theorem head_len (f : Bool) : ∀ l : List ByteArray, (∀ x ∈ l, x.size ≤ 100) → (glue f (partsOf l)).length ≤ l.length * 101
 | [], _ => by simp [partsOf, glue]
 | x :: l, h => by
  have h1 := head_len false l (fun y hy => h y (List.mem_cons_of_mem _ hy))
  have h2 := h x (List.mem_cons_self ..)
  have h3 : x.data.toList.length = x.size := size_len x
  simp only [partsOf, List.map_cons, glue, List.length_append, List.length_cons] at h1 ⊢
  cases f <;> simp <;> omega
theorem head_snoc {l : List ByteArray} {k : Nat} {x : ByteArray} (h : l[k]? = some x) : headS l (k + 1) = headS l k ++ (if k = 0 then [] else [44]) ++ x.data.toList := by
 have hk : k < l.length := (List.getElem?_eq_some_iff.1 h).1
 unfold headS partsOf
 rw [← take_snoc h, List.map_append, List.map_singleton, glue_snoc]
 by_cases h0 : k = 0
 ·subst h0; simp
 ·rw [if_neg h0, if_neg (by
   rintro ⟨_, h1⟩
   have h2 := congrArg List.length h1
   rw [List.length_map, List.length_take, List.length_nil] at h2
   omega)]
  simp
theorem valid_le {l : Bs} (h : validB l = true) : l.length ≤ 100 := by
 unfold validB at h; rw [Bool.and_eq_true, decide_eq_true_eq] at h; exact h.1
theorem tl_eq' (S : ByteArray) : S.toList = S.data.toList := ByteArray.toList_eq S
theorem bs_app (a : Bs) (x : ByteArray) : bsB a ++ x = bsB (a ++ x.data.toList) := by
 apply ByteArray.ext
 rw [ByteArray.data_append]
 apply Array.toList_inj.1
 simp [bsB]
theorem bs_size (a : Bs) : (bsB a).size = a.length := by unfold bsB; simp [ByteArray.size]
theorem func_any (w : World) (v : Value) (l : List ByteArray) (R : ByteArray) (h : RdS w v l) (hl : ∀ x ∈ l, x.size ≤ 140737488351232) (hR : R.size ≤ 140737488351232) (hn : l.length ≤ 140737488351232) :
  Calls Try.prog 48 #[v, .string R] w fun e w' => e = .returned (.tuple #[.string (bsB (funcM l R).1), .int .i64 (funcM l R).2]) ∧ Kp w w' := by
 have H := hid h
 obtain ⟨A, c, rfl, hc, _⟩ := h
 by_cases h4 : 4 < l.length
 ·have HV : Hid (funcM l R = ([], 15)) := hid (by unfold funcM; rw [if_pos h4])
  have i1 : (4 : Int) < (l.length : Int) := by omega
  go_enter Try.func48, Try.ntmps48
  go_wp2
  go_ret2
  exact ⟨by rw [HV.out]; rfl, Kp.refl _⟩
 ·obtain ⟨o, ho⟩ : ∃ o, funcM l R = o := ⟨_, rfl⟩
  have HO := hid ho
  rw [ho]
  unfold funcM at ho
  rw [if_neg h4] at ho
  have HO2 := hid ho
  have i1 : ¬ ((4 : Int) < (l.length : Int)) := by omega
  have HL := hid hl
  clear ho hl
  go_enter Try.func48, Try.ntmps48
  go_wp2
  go_loopw [6, 14] (fun s i wr => ∃ k : Nat, k ≤ l.length ∧ i = .int .i64 k ∧ s = .string (bsB (headS l k)) ∧ (∀ x ∈ l.take k, validB x.data.toList = true) ∧ Kp w wr) (fun _ i _ => l.length - (intOf i).toNat)
  case atStart => exact ⟨0, by omega, rfl, rfl, by simp, Kp.refl _⟩
  case round =>
   obtain ⟨k, hk, rfl, rfl, hva, hkp⟩ := hrel
   have HVA := hid hva
   have hsl : (bsB (headS l k)).size ≤ 1000 := by
    rw [bs_size]
    have := head_len true (l.take k) (fun x hx => by have := valid_le (hva x hx); rw [size_len] at this; exact this)
    unfold headS; rw [List.length_append, show bFunc.length = 5 from rfl]
    have h2 : (l.take k).length ≤ 4 := by rw [List.length_take]; omega
    have : (l.take k).length * 101 ≤ 4 * 101 := Nat.mul_le_mul_right _ h2
    omega
   have HK := hid hkp
   clear hva hkp
   by_cases hlt : k < l.length
   ·obtain ⟨x, hx⟩ : ∃ x, l[k]? = some x := ⟨l[k], List.getElem?_eq_getElem hlt⟩
    have hxs := HL.out x (List.mem_of_getElem? hx)
    obtain ⟨_, _, e, _, hcell⟩ := H.out.kp HK.out
    cases e
    obtain ⟨b, off, rfl, hb, hcx⟩ := hcell k x hx
    have HX := hid hx
    have j1 : (k : Int) < (l.length : Int) := by omega
    clear hx hcell
    cases hv : validB x.data.toList with
    | false =>
     have HV := hid hv
     have HV2 : Hid (o = ([], 9)) := hid (by
      rw [← HO2.out, if_pos]
      rw [Bool.eq_false_iff]
      intro h
      rw [List.all_eq_true] at h
      have := h x.data.toList (by unfold partsOf; exact List.mem_map.2 ⟨x, List.mem_of_getElem? HX.out, rfl⟩)
      rw [hv] at this; cases this)
     clear hv
     go_wp2_with (go_at_call 54; go_must (refine (valid_any _ x hxs).mono ?_); rintro e w1 ⟨rfl, hk1⟩; rw [HV.out])
     go_ret2
     exact ⟨by rw [HV2.out]; rfl, HK.out.trans hk1⟩
    | true =>
     have HV := hid hv
     have hs := head_snoc HX.out
     have hxl := valid_le hv
     rw [size_len] at hxl
     have HVN : Hid (∀ y ∈ l.take (k + 1), validB y.data.toList = true) := hid (by
      intro y hy
      rw [← take_snoc HX.out] at hy
      rcases List.mem_append.1 hy with hy | hy
      ·exact HVA.out y hy
      ·rw [List.mem_singleton] at hy; subst hy; exact HV.out)
     by_cases h0 : k = 0
     ·rw [if_pos h0] at hs
      have HS := hid hs
      have j2 : ¬ ((0 : Int) < (k : Int)) := by omega
      clear hv hs h0
      go_wp2_with (go_at_call 54; go_must (refine (valid_any _ x hxs).mono ?_); rintro e w1 ⟨rfl, hk1⟩; rw [HV.out])
      go_roundw
      case rel =>
       exact ⟨k + 1, by omega, by go_num, by rw [HS.out, bs_app, List.append_nil], HVN.out, HK.out.trans hk1⟩
      case measure => simp [intOf]; omega
     ·rw [if_neg h0] at hs
      have HS := hid hs
      have j2 : (0 : Int) < (k : Int) := by omega
      clear hv hs h0
      go_wp2_with (go_at_call 54; go_must (refine (valid_any _ x hxs).mono ?_); rintro e w1 ⟨rfl, hk1⟩; rw [HV.out])
      go_roundw
      case rel =>
       exact ⟨k + 1, by omega, by go_num, by rw [HS.out, bs_app, bs_app], HVN.out, HK.out.trans hk1⟩
      case measure => simp [intOf]; omega
   ·obtain rfl : k = l.length := by omega
    rw [List.take_length] at HVA
    have HAll : Hid ((partsOf l).all validB = true) := hid (by
     rw [List.all_eq_true]; intro y hy
     obtain ⟨z, hz, rfl⟩ := List.mem_map.1 hy
     exact HVA.out z hz)
    have HO3 : Hid ((if ((!(R.data.toList == [])) && !validB R.data.toList) = true then ([], 9) else if 100 < (madeB l R).length then ([], 1) else (madeB l R, 0)) = o) := hid (by
     rw [← HO2.out, HAll.out]; simp)
    obtain ⟨q, hq⟩ : ∃ q, (R.toList == []) = q := ⟨_, rfl⟩
    have hqe : R.toList.isEmpty = q := by rw [← hq]; cases R.toList <;> rfl
    have hqn : (!R.toList.isEmpty) = !q := by rw [hqe]
    obtain ⟨v, hv⟩ : ∃ v, validB R.data.toList = v := ⟨_, rfl⟩
    have HV := hid hv
    have HQ : Hid ((R.data.toList == []) = q) := hid (by rw [← tl_eq']; exact hq)
    have HL2 : Hid ((madeB l R) = headS l l.length ++ ([41] ++ R.data.toList)) := hid (by unfold madeB headS; rw [List.take_length, List.append_assoc])
    have hRb : q = false → v = true → R.size ≤ 100 := by
     intro _ h; rw [h] at hv; have := valid_le hv; rwa [size_len] at this
    have hRb2 : q = true → R.size = 0 := by
     intro h; rw [h] at hq; rw [← size_len, ← tl_eq', beq_iff_eq.1 hq]; rfl
    have HLn : Hid ((madeB l R).length = (bsB (headS l l.length)).size + (1 + R.size)) := hid (by rw [HL2.out, bs_size, List.length_append, List.length_append, size_len]; rfl)
    have HE : Hid (bsB (headS l l.length) ++ ((⟨#[41]⟩ : ByteArray) ++ R) = bsB (madeB l R)) := hid (by
     rw [bs_app, HL2.out]; congr 2)
    have hfin : ∀ (b : Bool), ((R.data.toList == []) = true ∨ validB R.data.toList = true) → (b = true ↔ 100 < (madeB l R).length) → o = if b then ([], 1) else (madeB l R, 0) := by
     intro b h1 h2
     rw [← HO3.out]
     have e : ((!(R.data.toList == [])) && !validB R.data.toList) = false := by rcases h1 with h | h <;> rw [h] <;> simp
     rw [e, if_neg (by decide)]
     cases b
     ·rw [if_neg (fun h => by cases h2.2 h)]; rfl
     ·rw [if_pos (h2.1 rfl)]; rfl
    have HFN := hid hfin
    clear hv hfin
    cases q with
    | false =>
     cases v with
     | false =>
      have HV2 : Hid (o = ([], 9)) := hid (by rw [← HO3.out, HQ.out, HV.out]; rfl)
      go_wp2_with (go_at_call 54; go_must (refine (valid_any _ R hR).mono ?_); rintro e w1 ⟨rfl, hk1⟩; rw [HV.out])
      go_ret2
      exact ⟨by rw [HV2.out]; rfl, HK.out.trans hk1⟩
     | true =>
      have hR1 := hRb rfl rfl
      by_cases hb : 100 < (bsB (headS l l.length)).size + (1 + R.size)
      ·have HO4 : Hid (o = ([], 1)) := hid (HFN.out true (.inr HV.out) (by rw [HLn.out]; simp [hb]))
       have j3 : (100 : Int) < ((bsB (headS l l.length)).size : Int) + (1 + (R.size : Int)) := by omega
       go_wp2_with (go_at_call 54; go_must (refine (valid_any _ R hR).mono ?_); rintro e w1 ⟨rfl, hk1⟩; rw [HV.out])
       go_ret2
       exact ⟨by rw [HO4.out]; rfl, HK.out.trans hk1⟩
      ·have HO4 : Hid (o = (madeB l R, 0)) := hid (HFN.out false (.inr HV.out) (by rw [HLn.out]; simp; omega))
       have j3 : ((bsB (headS l l.length)).size : Int) + (1 + (R.size : Int)) ≤ (100 : Int) := by omega
       go_wp2_with (go_at_call 54; go_must (refine (valid_any _ R hR).mono ?_); rintro e w1 ⟨rfl, hk1⟩; rw [HV.out])
       go_ret2
       exact ⟨by rw [HO4.out, ← HE.out]; rfl, HK.out.trans hk1⟩
    | true =>
     have hR1 := hRb2 rfl
     have HQ2 := hid (show (R.data.toList == []) = true from HQ.out)
     by_cases hb : 100 < (bsB (headS l l.length)).size + (1 + R.size)
     ·have HO4 : Hid (o = ([], 1)) := hid (HFN.out true (.inl HQ2.out) (by rw [HLn.out]; simp [hb]))
      have j3 : (100 : Int) < ((bsB (headS l l.length)).size : Int) + (1 + (R.size : Int)) := by omega
      have HR1 := hid hR1
      clear hRb hRb2
      go_wp2
      go_ret2
      exact ⟨by rw [HO4.out]; rfl, HK.out⟩
     ·have HO4 : Hid (o = (madeB l R, 0)) := hid (HFN.out false (.inl HQ2.out) (by rw [HLn.out]; simp; omega))
      have j3 : ((bsB (headS l l.length)).size : Int) + (1 + (R.size : Int)) ≤ (100 : Int) := by omega
      clear hRb hRb2
      go_wp2
      go_ret2
      exact ⟨by rw [HO4.out, ← HE.out]; rfl, HK.out⟩
end Go.Proofs.Ytcjgagmcnmmfoaa.Ty

namespace Go.Proofs.Ytcjgagmcnmmfoaa
open Go.RowKit Go.ChangeShapes Go.WideShapes Go.Deep Go.Joins

structure NodeM where
 kind : Int
 text : ByteArray
 type_ : ByteArray
 num : Int
 kids : List Int
def CeNode (w : World) (cs : List Value) (m : NodeM) : Prop := ∃ lkids, cs = [.int .i64 m.kind, .string m.text, .string m.type_, .int .i64 m.num, lkids] ∧ okI m.kind ∧ m.text.size ≤ 140737488351232 ∧ m.type_.size ≤ 140737488351232 ∧ okI m.num ∧ RdInts w lkids m.kids ∧ m.kids.length * 8 ≤ 140737488351232
theorem CeNode.kp : ElKp CeNode := fun _ _ _ _ hk ⟨lkids, h, h0, h1, h2, h3, h4, h5⟩ => ⟨lkids, h, h0, h1, h2, h3, h4.kp hk, h5⟩
def RdNode (w : World) (v : Value) (m : NodeM) : Prop := ∃ lkids, v = .agg #[.int .i64 m.kind, .string m.text, .string m.type_, .int .i64 m.num, lkids] ∧ okI m.kind ∧ m.text.size ≤ 140737488351232 ∧ m.type_.size ≤ 140737488351232 ∧ okI m.num ∧ RdInts w lkids m.kids ∧ m.kids.length * 8 ≤ 140737488351232
theorem RdNode.kp {w w' : World} {v : Value} {m : NodeM} (h : RdNode w v m) (hk : Kp w w') : RdNode w' v m := by
 obtain ⟨lkids, h, h0, h1, h2, h3, h4, h5⟩ := h
 exact ⟨lkids, h, h0, h1, h2, h3, h4.kp hk, h5⟩
theorem at_node {w : World} {A : Option Addr} {n c : Nat} {l : List NodeM} {i : Nat} {m : NodeM} (h : RdL CeNode 5 w (.slice A n c) l) (hi : l[i]? = some m) : ∃ b off, A = some ⟨b, off, none⟩ ∧ b < w.heap.size ∧ ∃ lkids, w.cell? ⟨b, off + i * 5, none⟩ = some (.int .i64 m.kind) ∧ w.cell? ⟨b, off + i * 5 + 1, none⟩ = some (.string m.text) ∧ w.cell? ⟨b, off + i * 5 + 2, none⟩ = some (.string m.type_) ∧ w.cell? ⟨b, off + i * 5 + 3, none⟩ = some (.int .i64 m.num) ∧ w.cell? ⟨b, off + i * 5 + 4, none⟩ = some (lkids) ∧ okI m.kind ∧ m.text.size ≤ 140737488351232 ∧ m.type_.size ≤ 140737488351232 ∧ okI m.num ∧ RdInts w lkids m.kids ∧ m.kids.length * 8 ≤ 140737488351232 := by
 obtain ⟨b, off, cs, g1, g2, g3, _, g4⟩ := h.at_ hi
 obtain ⟨lkids, rfl, h0, h1, h2, h3, h4, h5⟩ := g3
 exact ⟨b, off, g1, g2, lkids, g4 0 (by omega), g4 1 (by omega), g4 2 (by omega), g4 3 (by omega), g4 4 (by omega), h0, h1, h2, h3, h4, h5⟩
def PtNode (w : World) (v : Value) (m : NodeM) : Prop := ∃ b off lkids, v = .pointer (some ⟨b, off, none⟩) ∧ b < w.heap.size ∧ w.cell? ⟨b, off, none⟩ = some (.int .i64 m.kind) ∧ w.cell? ⟨b, off + 1, none⟩ = some (.string m.text) ∧ w.cell? ⟨b, off + 2, none⟩ = some (.string m.type_) ∧ w.cell? ⟨b, off + 3, none⟩ = some (.int .i64 m.num) ∧ w.cell? ⟨b, off + 4, none⟩ = some (lkids) ∧ okI m.kind ∧ m.text.size ≤ 140737488351232 ∧ m.type_.size ≤ 140737488351232 ∧ okI m.num ∧ RdInts w lkids m.kids ∧ m.kids.length * 8 ≤ 140737488351232
theorem PtNode.kp {w w' : World} {v : Value} {m : NodeM} (h : PtNode w v m) (hk : Kp w w') : PtNode w' v m := by
 obtain ⟨b, off, lkids, e, hb, g0, g1, g2, g3, g4, h0, h1, h2, h3, h4, h5⟩ := h
 exact ⟨b, off, lkids, e, Nat.lt_of_lt_of_le hb hk.le, cell_kp hk hb g0, cell_kp hk hb g1, cell_kp hk hb g2, cell_kp hk hb g3, cell_kp hk hb g4, h0, h1, h2, h3, h4.kp hk, h5⟩
theorem PtNode.rd {w : World} {b off : Nat} {m : NodeM} (h : PtNode w (.pointer (some ⟨b, off, none⟩)) m) : ∃ lkids, RdNode w (.agg #[.int .i64 m.kind, .string m.text, .string m.type_, .int .i64 m.num, lkids]) m ∧ w.cell? ⟨b, off, none⟩ = some (.int .i64 m.kind) ∧ w.cell? ⟨b, off + 1, none⟩ = some (.string m.text) ∧ w.cell? ⟨b, off + 2, none⟩ = some (.string m.type_) ∧ w.cell? ⟨b, off + 3, none⟩ = some (.int .i64 m.num) ∧ w.cell? ⟨b, off + 4, none⟩ = some (lkids) := by
 obtain ⟨b', off', lkids, e, hb, g0, g1, g2, g3, g4, h0, h1, h2, h3, h4, h5⟩ := h
 cases e
 exact ⟨lkids, ⟨lkids, rfl, h0, h1, h2, h3, h4, h5⟩, g0, g1, g2, g3, g4⟩
@[go_sem] theorem field_node0 (x0 x1 x2 x3 x4 : Value) (w : World) : Sem.run Try.prog (Instr.field 37 (.agg #[x0, x1, x2, x3, x4]) 0) w = .ok (x0) w := by kernel_rfl
@[go_sem] theorem field_node1 (x0 x1 x2 x3 x4 : Value) (w : World) : Sem.run Try.prog (Instr.field 37 (.agg #[x0, x1, x2, x3, x4]) 1) w = .ok (x1) w := by kernel_rfl
@[go_sem] theorem field_node2 (x0 x1 x2 x3 x4 : Value) (w : World) : Sem.run Try.prog (Instr.field 37 (.agg #[x0, x1, x2, x3, x4]) 2) w = .ok (x2) w := by kernel_rfl
@[go_sem] theorem field_node3 (x0 x1 x2 x3 x4 : Value) (w : World) : Sem.run Try.prog (Instr.field 37 (.agg #[x0, x1, x2, x3, x4]) 3) w = .ok (x3) w := by kernel_rfl
@[go_sem] theorem field_node4 (x0 x1 x2 x3 x4 : Value) (w : World) : Sem.run Try.prog (Instr.field 37 (.agg #[x0, x1, x2, x3, x4]) 4) w = .ok (x4) w := by kernel_rfl
section
variable {H : Type} {enc : TypeId × Value → H} {W : World} {base : Nat} {v : Value} {d : DataW H} {p : List MemPlace}
end
end Go.Proofs.Ytcjgagmcnmmfoaa

namespace Go.Proofs.Ytcjgagmcnmmfoaa.Pa
open Go.RowKit

inductive T where
 | node (kind : Int) (text type : ByteArray) (num : Int) (kids : List T)
abbrev Tk := Int × ByteArray
def tkOf (t : TokenM) : Tk := (t.kind, t.text)
inductive Pr (α : Type) where
 | ok (a : α) (r : List Tk)
 | bad
 | out
def Pr.bind {α β : Type} (p : Pr α) (f : α → List Tk → Pr β) : Pr β := match p with
 | .ok a r => f a r
 | .bad => .bad
 | .out => .out
def sB (l : Bs) : ByteArray := ⟨l.toArray⟩
def noB : ByteArray := ⟨#[]⟩
def isSign (s : Bs) : List Tk → Bool
 | [] => false
 | t :: _ => (t.1 == 4 || t.1 == 5) && t.2.data.toList == s
def kindOf : List Tk → Int
 | [] => 0
 | t :: _ => t.1
def textOf : List Tk → ByteArray
 | [] => noB
 | t :: _ => t.2
def want (s : Bs) (l : List Tk) : Pr Unit := if isSign s l then .ok () l.tail else .bad
def nmM (l : List Tk) : Pr ByteArray := if kindOf l = 1 then .ok (textOf l) l.tail else .bad
def firstOf (ss : List Bs) (l : List Tk) : Option Bs := ss.find? (fun s => isSign s l)
def tyNames : List Bs := [kInt, kBool, kString, kAny]
def tyHeads : List Bs := [kInt, kBool, kString, kAny, [91], [42], kFunc]
def typed (l : List Tk) : Bool := tyHeads.any (fun s => isSign s l)
def kInts : Bs := [91, 93, 105, 110, 116]
def kPtr : Bs := [42, 105, 110, 116]
mutual
def typF : Nat → List Tk → Pr Bs
 | 0, _ => .out
 | f + 1, l => match firstOf tyNames l with
  | some s => .ok s l.tail
  | none =>
   if isSign [91] l then (want [93] l.tail).bind fun _ r => (want kInt r).bind fun _ r => .ok kInts r
   else if isSign [42] l then (want kInt l.tail).bind fun _ r => .ok kPtr r
   else (want kFunc l).bind fun _ r => (want [40] r).bind fun _ r => (typsF f [] r).bind fun ps r =>
    (if typed r then typF f r else .ok [] r).bind fun q r =>
    if (Ty.funcM (ps.map sB) (sB q)).2 = 0 then .ok (Ty.funcM (ps.map sB) (sB q)).1 r else .bad
def typsF : Nat → List Bs → List Tk → Pr (List Bs)
 | 0, _, _ => .out
 | f + 1, ps, l => if isSign [41] l then .ok ps l.tail else
   (if ps = [] then .ok () l else want [44] l).bind fun _ r => (typF f r).bind fun t r => typsF f (ps ++ [t]) r
end
noncomputable def numOf (t : ByteArray) : Int := (readO t.data.toList).getD 0
noncomputable def sayOf (t : ByteArray) : ByteArray := ⟨((unqO t).getD []).toArray⟩
def nd (k : Int) (kids : List T) : T := .node k noB noB 0 kids
def parsF : Nat → List T → List Tk → Pr (List T)
 | 0, _, _ => .out
 | f + 1, ps, l => if isSign [41] l then .ok ps l.tail else
   (if ps = [] then .ok () l else want [44] l).bind fun _ r => if ps.length = 4 then .bad else
   (nmM r).bind fun s r => (typF f r).bind fun t r => parsF f (ps ++ [.node 3 s (sB t) 0 []]) r
def resF (f : Nat) (l : List Tk) : Pr T :=
 if isSign [40] l then (nmM l.tail).bind fun s r => (typF f r).bind fun t r => (want [41] r).bind fun _ r => .ok (.node 4 s (sB t) 0 []) r
 else if typed l then (typF f l).bind fun t r => .ok (.node 4 noB (sB t) 0 []) r
 else .ok (nd 4 []) l
def placeT : T → Bool
 | .node k s _ _ _ => k == 25 || k == 29 || (k == 26 && s.data.toList == [42])
def kindT : T → Int
 | .node k _ _ _ _ => k
def levels : List (List Bs) := [[[124, 124]], [[38, 38]], [[61, 61], [33, 61], [60], [60, 61], [62], [62, 61]], [[43], [45], [124], [94]], [[42], [47], [37], [60, 60], [62, 62], [38]]]
def level (s : Bs) : Nat := match levels.findIdx? (fun l => l.contains s) with | some i => i + 1 | none => 0
def binop (least : Nat) (l : List Tk) : Option (ByteArray × Nat) :=
 if kindOf l = 4 then (if level (textOf l).data.toList < least ∨ level (textOf l).data.toList = 0 then none else some (textOf l, level (textOf l).data.toList)) else none
def unOps : List Bs := [[45], [33], [42]]
def isDefine (l : List Tk) : Bool := kindOf l == 1 && match l with
 | _ :: t :: _ => t.1 == 4 && t.2.data.toList == [58, 61]
 | _ => false
mutual
noncomputable def exprF : Nat → Nat → List Tk → Pr T
 | 0, _, _ => .out
 | f + 1, least, l => (unaryF f l).bind fun a r => loopF f least a r
noncomputable def loopF : Nat → Nat → T → List Tk → Pr T
 | 0, _, _, _ => .out
 | f + 1, least, a, l => match binop least l with
  | some (s, n) => (exprF f (n + 1) l.tail).bind fun m r => loopF f least (.node 27 s noB 0 [a, m]) r
  | none => .ok a l
noncomputable def unaryF : Nat → List Tk → Pr T
 | 0, _ => .out
 | f + 1, l => match firstOf unOps l with
  | some s => (unaryF f l.tail).bind fun a r => .ok (.node 26 (sB s) noB 0 [a]) r
  | none =>
   if isSign [38] l then (nmM l.tail).bind fun s r => .ok (.node 26 (sB [38]) noB 0 [.node 25 s noB 0 []]) r
   else (primF f l).bind fun a r => behF f a r
noncomputable def primF : Nat → List Tk → Pr T
 | 0, _ => .out
 | f + 1, l =>
  if kindOf l = 1 then .ok (.node 25 (textOf l) noB 0 []) l.tail
  else if kindOf l = 2 then .ok (.node 21 noB noB (numOf (textOf l)) []) l.tail
  else if kindOf l = 3 then .ok (.node 22 (sayOf (textOf l)) noB 0 []) l.tail
  else if isSign kTrue l then .ok (.node 23 noB noB 1 []) l.tail
  else if isSign kFalse l then .ok (nd 23 []) l.tail
  else if isSign kNil l then .ok (nd 24 []) l.tail
  else if isSign [40] l then (exprF f 1 l.tail).bind fun a r => (want [41] r).bind fun _ r => .ok a r
  else if isSign kFunc l then funF f 33 noB l.tail
  else (want [91] l).bind fun _ r => (want [93] r).bind fun _ r => (want kInt r).bind fun _ r => (want [123] r).bind fun _ r =>
   (listF f [125] true [] r).bind fun ks r => .ok (nd 32 ks) r
noncomputable def listF : Nat → Bs → Bool → List T → List Tk → Pr (List T)
 | 0, _, _, _, _ => .out
 | f + 1, stop, first, ks, l => if isSign stop l then .ok ks l.tail else
   (if first then .ok () l else want [44] l).bind fun _ r => (exprF f 1 r).bind fun a r => listF f stop false (ks ++ [a]) r
noncomputable def behF : Nat → T → List Tk → Pr T
 | 0, _, _ => .out
 | f + 1, a, l =>
  if isSign [40] l then (listF f [41] true [a] l.tail).bind fun ks r => behF f (nd 28 ks) r
  else if isSign [91] l then (insF f a l.tail).bind fun b r => behF f b r
  else .ok a l
noncomputable def insF : Nat → T → List Tk → Pr T
 | 0, _, _ => .out
 | f + 1, a, l =>
  if isSign [58] l then (want [58] l).bind fun _ r => endF f a (nd 31 []) r
  else (exprF f 1 l).bind fun b r => if isSign [93] r then .ok (nd 29 [a, b]) r.tail else (want [58] r).bind fun _ r => endF f a b r
noncomputable def endF : Nat → T → T → List Tk → Pr T
 | 0, _, _, _ => .out
 | f + 1, a, b, l =>
  (if isSign [93] l then .ok (nd 31 []) l else exprF f 1 l).bind fun c r => (want [93] r).bind fun _ r => .ok (nd 30 [a, b, c]) r
noncomputable def funF : Nat → Int → ByteArray → List Tk → Pr T
 | 0, _, _, _ => .out
 | f + 1, k, s, l => (want [40] l).bind fun _ r => (parsF f [] r).bind fun ps r => (resF f r).bind fun q r => (blockF f r).bind fun b r =>
   .ok (.node k s noB ps.length (ps ++ [q, b])) r
noncomputable def blockF : Nat → List Tk → Pr T
 | 0, _ => .out
 | f + 1, l => (want [123] l).bind fun _ r => (stmsF f [] r).bind fun ks r => .ok (nd 5 ks) r
noncomputable def stmsF : Nat → List T → List Tk → Pr (List T)
 | 0, _, _ => .out
 | f + 1, ks, l => if isSign [125] l then .ok ks l.tail else if kindOf l = 6 then stmsF f ks l.tail else
   (stmF f l).bind fun a r => if kindOf r = 6 ∨ isSign [125] r = true then stmsF f (ks ++ [a]) r else .bad
noncomputable def stmF : Nat → List Tk → Pr T
 | 0, _ => .out
 | f + 1, l =>
  if isSign [123] l then blockF f l
  else if isSign kVar l then (nmM l.tail).bind fun s r => (typF f r).bind fun t r => .ok (.node 6 s (sB t) 0 []) r
  else if isSign kIf l then ifsF f l.tail
  else if isSign kFor l then
   (if isSign [123] l.tail then .ok [] l.tail else (exprF f 1 l.tail).bind fun a r => .ok [a] r).bind fun ks r => (blockF f r).bind fun b r => .ok (nd 11 (ks ++ [b])) r
  else if isSign kBreak l then .ok (nd 12 []) l.tail
  else if isSign kContinue l then .ok (nd 13 []) l.tail
  else if isSign kReturn l then
   if kindOf l.tail = 6 ∨ isSign [125] l.tail = true then .ok (nd 14 []) l.tail else (exprF f 1 l.tail).bind fun a r => .ok (nd 14 [a]) r
  else if isSign kDefer l then (exprF f 1 l.tail).bind fun a r => if kindT a = 28 then .ok (nd 15 [a]) r else .bad
  else simF f l
noncomputable def ifsF : Nat → List Tk → Pr T
 | 0, _ => .out
 | f + 1, l => (exprF f 1 l).bind fun a r => (blockF f r).bind fun b r =>
   if isSign kElse r then (if isSign kIf r.tail then ifsF f r.tail.tail else blockF f r.tail).bind fun c r => .ok (nd 10 [a, b, c]) r
   else .ok (nd 10 [a, b]) r
noncomputable def simF : Nat → List Tk → Pr T
 | 0, _ => .out
 | f + 1, l =>
  if isDefine l then (exprF f 1 l.tail.tail).bind fun a r => .ok (.node 7 (textOf l) noB 0 [a]) r
  else (exprF f 1 l).bind fun a r =>
   if isSign [61] r then (if placeT a then (exprF f 1 r.tail).bind fun b r => .ok (nd 8 [a, b]) r else .bad)
   else if kindT a = 28 then .ok (nd 9 [a]) r else .bad
end
mutual
def sizeT : T → Nat
 | .node _ _ _ _ ks => sizeL ks + 1
def sizeL : List T → Nat
 | [] => 0
 | t :: r => sizeT t + sizeL r
end
def rootT (b : Nat) : T → Nat
 | .node _ _ _ _ ks => b + sizeL ks
def rootsL (b : Nat) : List T → List Int
 | [] => []
 | t :: r => (rootT b t : Int) :: rootsL (b + sizeT t) r
mutual
def flat (b : Nat) : T → List NodeM
 | .node k s t n ks => flatL b ks ++ [⟨k, s, t, n, rootsL b ks⟩]
def flatL (b : Nat) : List T → List NodeM
 | [] => []
 | t :: r => flat b t ++ flatL (b + sizeT t) r
end
mutual
theorem flat_len : ∀ (b : Nat) (t : T), (flat b t).length = sizeT t
 | b, .node _ _ _ _ ks => by simp [flat, sizeT, flatL_len b ks]
theorem flatL_len : ∀ (b : Nat) (l : List T), (flatL b l).length = sizeL l
 | _, [] => rfl
 | b, t :: r => by simp [flatL, sizeL, flat_len b t, flatL_len _ r]
end
theorem rootT_eq (b : Nat) (t : T) : rootT b t + 1 = b + sizeT t := by cases t; simp [rootT, sizeT]; omega
theorem sizeL_app : ∀ (l m : List T), sizeL (l ++ m) = sizeL l + sizeL m
 | [], m => by simp [sizeL]
 | t :: r, m => by simp [sizeL, sizeL_app r m]; omega
theorem flatL_app : ∀ (b : Nat) (l m : List T), flatL b (l ++ m) = flatL b l ++ flatL (b + sizeL l) m
 | b, [], m => by simp [flatL, sizeL]
 | b, t :: r, m => by simp [flatL, sizeL, flatL_app _ r m, Nat.add_assoc]
theorem rootsL_app : ∀ (b : Nat) (l m : List T), rootsL b (l ++ m) = rootsL b l ++ rootsL (b + sizeL l) m
 | b, [], m => by simp [rootsL, sizeL]
 | b, t :: r, m => by simp [rootsL, sizeL, rootsL_app _ r m, Nat.add_assoc]
theorem rootsL_len : ∀ (b : Nat) (l : List T), (rootsL b l).length = l.length
 | _, [] => rfl
 | b, t :: r => by simp [rootsL, rootsL_len _ r]
theorem sizeT_pos (t : T) : 0 < sizeT t := by cases t; simp [sizeT]
theorem sizeL_ge : ∀ l : List T, l.length ≤ sizeL l
 | [] => by simp [sizeL]
 | t :: r => by have := sizeL_ge r; have := sizeT_pos t; simp [sizeL]; omega
end Go.Proofs.Ytcjgagmcnmmfoaa.Pa
namespace Go.Proofs.Ytcjgagmcnmmfoaa.Pa
open Go.RowKit

def Pr.le {α : Type} (x y : Pr α) : Prop := x = .out ∨ x = y
theorem Pr.le_refl {α : Type} (x : Pr α) : Pr.le x x := .inr rfl
theorem Pr.bind_le {α β : Type} {x y : Pr α} {f g : α → List Tk → Pr β} (h : Pr.le x y) (k : ∀ a r, Pr.le (f a r) (g a r)) : Pr.le (x.bind f) (y.bind g) := by
 rcases h with rfl | rfl
 ·exact .inl rfl
 ·cases x with
  | ok a r => exact k a r
  | bad => exact .inr rfl
  | out => exact .inl rfl
theorem Pr.ite_le {α : Type} {c : Prop} [Decidable c] {a b a' b' : Pr α} (h : Pr.le a a') (k : Pr.le b b') : Pr.le (if c then a else b) (if c then a' else b') := by split <;> assumption
theorem typ_le : ∀ f g, f ≤ g → (∀ l, Pr.le (typF f l) (typF g l)) ∧ (∀ ps l, Pr.le (typsF f ps l) (typsF g ps l))
 | 0, g, _ => ⟨fun l => by rw [typF]; exact .inl rfl, fun ps l => by rw [typsF]; exact .inl rfl⟩
 | f + 1, 0, h => by omega
 | f + 1, g + 1, h => by
  obtain ⟨h1, h2⟩ := typ_le f g (by omega)
  constructor
  ·intro l
   rw [typF, typF]
   cases firstOf tyNames l with
   | some s => exact .inr rfl
   | none =>
    refine Pr.ite_le (Pr.le_refl _) (Pr.ite_le (Pr.le_refl _) (Pr.bind_le (Pr.le_refl _) fun _ _ => Pr.bind_le (Pr.le_refl _) fun _ _ => Pr.bind_le (h2 _ _) fun _ _ => Pr.bind_le (Pr.ite_le (h1 _) (Pr.le_refl _)) fun _ _ => Pr.le_refl _))
  ·intro ps l
   rw [typsF, typsF]
   exact Pr.ite_le (Pr.le_refl _) (Pr.bind_le (Pr.le_refl _) fun _ _ => Pr.bind_le (h1 _) fun _ _ => h2 _ _)
theorem pars_le : ∀ f g, f ≤ g → ∀ ps l, Pr.le (parsF f ps l) (parsF g ps l)
 | 0, g, _, ps, l => by rw [parsF]; exact .inl rfl
 | f + 1, 0, h, _, _ => by omega
 | f + 1, g + 1, h, ps, l => by
  rw [parsF, parsF]
  exact Pr.ite_le (Pr.le_refl _) (Pr.bind_le (Pr.le_refl _) fun _ _ => Pr.ite_le (Pr.le_refl _) (Pr.bind_le (Pr.le_refl _) fun _ _ => Pr.bind_le ((typ_le f g (by omega)).1 _) fun _ _ => pars_le f g (by omega) _ _))
theorem res_le (f g : Nat) (h : f ≤ g) (l : List Tk) : Pr.le (resF f l) (resF g l) := by
 unfold resF
 exact Pr.ite_le (Pr.bind_le (Pr.le_refl _) fun _ _ => Pr.bind_le ((typ_le f g h).1 _) fun _ _ => Pr.le_refl _) (Pr.ite_le (Pr.bind_le ((typ_le f g h).1 _) fun _ _ => Pr.le_refl _) (Pr.le_refl _))
structure LeAll (f g : Nat) : Prop where
 expr : ∀ n l, Pr.le (exprF f n l) (exprF g n l)
 loop : ∀ n a l, Pr.le (loopF f n a l) (loopF g n a l)
 unary : ∀ l, Pr.le (unaryF f l) (unaryF g l)
 prim : ∀ l, Pr.le (primF f l) (primF g l)
 list : ∀ s b ks l, Pr.le (listF f s b ks l) (listF g s b ks l)
 beh : ∀ a l, Pr.le (behF f a l) (behF g a l)
 ins : ∀ a l, Pr.le (insF f a l) (insF g a l)
 end_ : ∀ a b l, Pr.le (endF f a b l) (endF g a b l)
 fun_ : ∀ k s l, Pr.le (funF f k s l) (funF g k s l)
 block : ∀ l, Pr.le (blockF f l) (blockF g l)
 stms : ∀ ks l, Pr.le (stmsF f ks l) (stmsF g ks l)
 stm : ∀ l, Pr.le (stmF f l) (stmF g l)
 ifs : ∀ l, Pr.le (ifsF f l) (ifsF g l)
 sim : ∀ l, Pr.le (simF f l) (simF g l)
theorem le_all : ∀ f g, f ≤ g → LeAll f g
 | 0, g, _ => by
  constructor <;> intros <;> (first | rw [exprF] | rw [loopF] | rw [unaryF] | rw [primF] | rw [listF] | rw [behF] | rw [insF] | rw [endF] | rw [funF] | rw [blockF] | rw [stmsF] | rw [stmF] | rw [ifsF] | rw [simF]) <;> exact .inl rfl
 | f + 1, 0, h => by omega
 | f + 1, g + 1, h => by
  have H := le_all f g (by omega)
  constructor
  ·intro n l; rw [exprF, exprF]; exact Pr.bind_le (H.unary _) fun _ _ => H.loop _ _ _
  ·intro n a l; rw [loopF, loopF]
   split
   ·exact Pr.bind_le (H.expr _ _) fun _ _ => H.loop _ _ _
   ·exact Pr.le_refl _
  ·intro l; rw [unaryF, unaryF]
   split
   ·exact Pr.bind_le (H.unary _) fun _ _ => Pr.le_refl _
   ·exact Pr.ite_le (Pr.le_refl _) (Pr.bind_le (H.prim _) fun _ _ => H.beh _ _)
  ·intro l; rw [primF, primF]
   refine Pr.ite_le (Pr.le_refl _) (Pr.ite_le (Pr.le_refl _) (Pr.ite_le (Pr.le_refl _) (Pr.ite_le (Pr.le_refl _) (Pr.ite_le (Pr.le_refl _) (Pr.ite_le (Pr.le_refl _) (Pr.ite_le ?_ (Pr.ite_le (H.fun_ _ _ _) ?_)))))))
   ·exact Pr.bind_le (H.expr _ _) fun _ _ => Pr.le_refl _
   ·exact Pr.bind_le (Pr.le_refl _) fun _ _ => Pr.bind_le (Pr.le_refl _) fun _ _ => Pr.bind_le (Pr.le_refl _) fun _ _ => Pr.bind_le (Pr.le_refl _) fun _ _ => Pr.bind_le (H.list _ _ _ _) fun _ _ => Pr.le_refl _
  ·intro s b ks l; rw [listF, listF]
   exact Pr.ite_le (Pr.le_refl _) (Pr.bind_le (Pr.le_refl _) fun _ _ => Pr.bind_le (H.expr _ _) fun _ _ => H.list _ _ _ _)
  ·intro a l; rw [behF, behF]
   exact Pr.ite_le (Pr.bind_le (H.list _ _ _ _) fun _ _ => H.beh _ _) (Pr.ite_le (Pr.bind_le (H.ins _ _) fun _ _ => H.beh _ _) (Pr.le_refl _))
  ·intro a l; rw [insF, insF]
   exact Pr.ite_le (Pr.bind_le (Pr.le_refl _) fun _ _ => H.end_ _ _ _) (Pr.bind_le (H.expr _ _) fun _ _ => Pr.ite_le (Pr.le_refl _) (Pr.bind_le (Pr.le_refl _) fun _ _ => H.end_ _ _ _))
  ·intro a b l; rw [endF, endF]
   exact Pr.bind_le (Pr.ite_le (Pr.le_refl _) (H.expr _ _)) fun _ _ => Pr.le_refl _
  ·intro k s l; rw [funF, funF]
   exact Pr.bind_le (Pr.le_refl _) fun _ _ => Pr.bind_le (pars_le f g (by omega) _ _) fun _ _ => Pr.bind_le (res_le f g (by omega) _) fun _ _ => Pr.bind_le (H.block _) fun _ _ => Pr.le_refl _
  ·intro l; rw [blockF, blockF]
   exact Pr.bind_le (Pr.le_refl _) fun _ _ => Pr.bind_le (H.stms _ _) fun _ _ => Pr.le_refl _
  ·intro ks l; rw [stmsF, stmsF]
   exact Pr.ite_le (Pr.le_refl _) (Pr.ite_le (H.stms _ _) (Pr.bind_le (H.stm _) fun _ _ => Pr.ite_le (H.stms _ _) (Pr.le_refl _)))
  ·intro l; rw [stmF, stmF]
   refine Pr.ite_le (H.block _) (Pr.ite_le ?_ (Pr.ite_le (H.ifs _) (Pr.ite_le ?_ (Pr.ite_le (Pr.le_refl _) (Pr.ite_le (Pr.le_refl _) (Pr.ite_le ?_ (Pr.ite_le ?_ (H.sim _))))))))
   ·exact Pr.bind_le (Pr.le_refl _) fun _ _ => Pr.bind_le ((typ_le f g (by omega)).1 _) fun _ _ => Pr.le_refl _
   ·exact Pr.bind_le (Pr.ite_le (Pr.le_refl _) (Pr.bind_le (H.expr _ _) fun _ _ => Pr.le_refl _)) fun _ _ => Pr.bind_le (H.block _) fun _ _ => Pr.le_refl _
   ·exact Pr.ite_le (Pr.le_refl _) (Pr.bind_le (H.expr _ _) fun _ _ => Pr.le_refl _)
   ·exact Pr.bind_le (H.expr _ _) fun _ _ => Pr.le_refl _
  ·intro l; rw [ifsF, ifsF]
   exact Pr.bind_le (H.expr _ _) fun _ _ => Pr.bind_le (H.block _) fun _ _ => Pr.ite_le (Pr.bind_le (Pr.ite_le (H.ifs _) (H.block _)) fun _ _ => Pr.le_refl _) (Pr.le_refl _)
  ·intro l; rw [simF, simF]
   exact Pr.ite_le (Pr.bind_le (H.expr _ _) fun _ _ => Pr.le_refl _) (Pr.bind_le (H.expr _ _) fun _ _ => Pr.ite_le (Pr.ite_le (Pr.bind_le (H.expr _ _) fun _ _ => Pr.le_refl _) (Pr.le_refl _)) (Pr.le_refl _))
def Fin {α : Type} (k : Nat) (p : Pr α) : Prop := match p with
 | .ok _ r => r.length < k
 | .bad => True
 | .out => False
theorem Fin.bind {α β : Type} {k m : Nat} {x : Pr α} {f : α → List Tk → Pr β} (h : Fin k x) (g : ∀ a r, r.length < k → Fin m (f a r)) : Fin m (x.bind f) := by
 cases x with
 | ok a r => exact g a r h
 | bad => exact trivial
 | out => exact h.elim
theorem Fin.mono {α : Type} {k m : Nat} {x : Pr α} (h : Fin k x) (hk : k ≤ m) : Fin m x := by
 cases x with
 | ok a r => exact Nat.lt_of_lt_of_le h hk
 | bad => exact trivial
 | out => exact h.elim
theorem sign_pos {s : Bs} {l : List Tk} (h : isSign s l = true) : l.tail.length < l.length := by
 cases l with
 | nil => cases h
 | cons t r => simp
theorem kind_pos {l : List Tk} {k : Int} (h : kindOf l = k) (hk : k ≠ 0) : l.tail.length < l.length := by
 cases l with
 | nil => exact absurd h.symm hk
 | cons t r => simp
theorem fin_want (s : Bs) (l : List Tk) : Fin l.length (want s l) := by
 unfold want
 split
 ·exact sign_pos ‹_›
 ·exact trivial
theorem fin_name (l : List Tk) : Fin l.length (nmM l) := by
 unfold nmM
 split
 ·exact kind_pos ‹_› (by decide)
 ·exact trivial
theorem first_pos {ss : List Bs} {l : List Tk} {s : Bs} (h : firstOf ss l = some s) : l.tail.length < l.length := sign_pos (s := s) (List.find?_some (p := fun s => isSign s l) h)
theorem fin_typ : ∀ f, (∀ l, 8 * l.length + 1 ≤ f → Fin l.length (typF f l)) ∧ (∀ ps l, 8 * l.length + 2 ≤ f → Fin l.length (typsF f ps l))
 | 0 => ⟨fun l h => by omega, fun _ l h => by omega⟩
 | f + 1 => by
  obtain ⟨h1, h2⟩ := fin_typ f
  constructor
  ·intro l hf
   rw [typF]
   split
   ·exact first_pos ‹_›
   ·split
    ·have := sign_pos ‹_›
     exact (fin_want _ _).bind fun _ r hr => (fin_want _ _).bind fun _ r2 hr2 => by show r2.length < _; omega
    ·split
     ·have := sign_pos ‹_›
      exact (fin_want _ _).bind fun _ r2 hr2 => by show r2.length < _; omega
     ·refine (fin_want _ _).bind fun _ r hr => (fin_want _ _).bind fun _ r hr => (h2 _ _ (by omega)).bind fun _ r3 hr3 => ?_
      refine Fin.bind (k := r3.length + 1) ?_ fun _ r4 hr4 => ?_
      ·split
       ·exact (h1 _ (by omega)).mono (by omega)
       ·exact Nat.lt_succ_self _
      ·split
       ·show r4.length < _; omega
       ·exact trivial
  ·intro ps l hf
   rw [typsF]
   split
   ·exact sign_pos ‹_›
   ·refine Fin.bind (k := l.length + 1) ?_ fun _ r hr => (h1 _ (by omega)).bind fun _ r2 hr2 => (h2 _ _ (by omega)).mono (by omega)
    split
    ·exact Nat.lt_succ_self _
    ·exact (fin_want _ _).mono (by omega)
theorem fin_pars : ∀ f ps l, 8 * l.length + 2 ≤ f → Fin l.length (parsF f ps l)
 | 0, _, l, h => by omega
 | f + 1, ps, l, hf => by
  rw [parsF]
  split
  ·exact sign_pos ‹_›
  ·refine Fin.bind (k := l.length + 1) ?_ fun _ r hr => ?_
   ·split
    ·exact Nat.lt_succ_self _
    ·exact (fin_want _ _).mono (by omega)
   ·split
    ·exact trivial
    ·exact (fin_name _).bind fun _ r2 hr2 => ((fin_typ f).1 _ (by omega)).bind fun _ r3 hr3 => (fin_pars f _ _ (by omega)).mono (by omega)
theorem fin_res (f : Nat) (l : List Tk) (hf : 8 * l.length + 2 ≤ f) : Fin (l.length + 1) (resF f l) := by
 unfold resF
 split
 ·have := sign_pos ‹_›
  exact (fin_name _).bind fun _ r hr => ((fin_typ f).1 _ (by omega)).bind fun _ r2 hr2 => (fin_want _ _).bind fun _ r3 hr3 => by show r3.length < _; omega
 ·split
  ·exact ((fin_typ f).1 _ (by omega)).bind fun _ r2 hr2 => by show r2.length < _; omega
  ·exact Nat.lt_succ_self _
structure FinAll (f : Nat) : Prop where
 expr : ∀ n l, 8 * l.length + 3 ≤ f → Fin l.length (exprF f n l)
 loop : ∀ n a l, 8 * l.length + 1 ≤ f → Fin (l.length + 1) (loopF f n a l)
 unary : ∀ l, 8 * l.length + 2 ≤ f → Fin l.length (unaryF f l)
 prim : ∀ l, 8 * l.length + 1 ≤ f → Fin l.length (primF f l)
 list : ∀ s b ks l, 8 * l.length + 4 ≤ f → Fin l.length (listF f s b ks l)
 beh : ∀ a l, 8 * l.length + 1 ≤ f → Fin (l.length + 1) (behF f a l)
 ins : ∀ a l, 8 * l.length + 4 ≤ f → Fin l.length (insF f a l)
 end_ : ∀ a b l, 8 * l.length + 4 ≤ f → Fin l.length (endF f a b l)
 fun_ : ∀ k s l, 8 * l.length + 1 ≤ f → Fin l.length (funF f k s l)
 block : ∀ l, 8 * l.length + 1 ≤ f → Fin l.length (blockF f l)
 stms : ∀ ks l, 8 * l.length + 6 ≤ f → Fin l.length (stmsF f ks l)
 stm : ∀ l, 8 * l.length + 5 ≤ f → Fin l.length (stmF f l)
 ifs : ∀ l, 8 * l.length + 4 ≤ f → Fin l.length (ifsF f l)
 sim : ∀ l, 8 * l.length + 4 ≤ f → Fin l.length (simF f l)
theorem binop_pos {n : Nat} {l : List Tk} {p : ByteArray × Nat} (h : binop n l = some p) : l.tail.length < l.length := by
 unfold binop at h
 split at h
 ·exact kind_pos ‹_› (by decide)
 ·cases h
theorem define_pos {l : List Tk} (h : isDefine l = true) : l.tail.tail.length + 1 < l.length := by
 match l, h with
 | _ :: _ :: r, _ => simp
 | [_], h => simp [isDefine] at h
 | [], h => simp [isDefine] at h
theorem fin_all : ∀ f, FinAll f
 | 0 => by constructor <;> intros <;> omega
 | f + 1 => by
  have H := fin_all f
  constructor
  ·intro n l hf; rw [exprF]; exact (H.unary _ (by omega)).bind fun _ r hr => (H.loop _ _ _ (by omega)).mono (by omega)
  ·intro n a l hf; rw [loopF]
   split
   ·have := binop_pos ‹_›
    exact (H.expr _ _ (by omega)).bind fun _ r hr => (H.loop _ _ _ (by omega)).mono (by omega)
   ·exact Nat.lt_succ_self _
  ·intro l hf; rw [unaryF]
   split
   ·have := first_pos ‹_›
    exact (H.unary _ (by omega)).bind fun _ r hr => by show r.length < _; omega
   ·split
    ·have := sign_pos ‹_›
     exact (fin_name _).bind fun _ r hr => by show r.length < _; omega
    ·exact (H.prim _ (by omega)).bind fun _ r hr => (H.beh _ _ (by omega)).mono (by omega)
  ·intro l hf; rw [primF]
   split
   ·exact kind_pos ‹_› (by decide)
   split
   ·exact kind_pos ‹_› (by decide)
   split
   ·exact kind_pos ‹_› (by decide)
   split
   ·exact sign_pos ‹_›
   split
   ·exact sign_pos ‹_›
   split
   ·exact sign_pos ‹_›
   split
   ·have := sign_pos ‹_›
    exact (H.expr _ _ (by omega)).bind fun _ r hr => (fin_want _ _).bind fun _ r2 hr2 => by show r2.length < _; omega
   split
   ·have := sign_pos ‹_›
    exact (H.fun_ _ _ _ (by omega)).mono (by omega)
   ·exact (fin_want _ _).bind fun _ r hr => (fin_want _ _).bind fun _ r hr => (fin_want _ _).bind fun _ r hr => (fin_want _ _).bind fun _ r hr => (H.list _ _ _ _ (by omega)).bind fun _ r2 hr2 => by show r2.length < _; omega
  ·intro s b ks l hf; rw [listF]
   split
   ·exact sign_pos ‹_›
   ·refine Fin.bind (k := l.length + 1) ?_ fun _ r hr => (H.expr _ _ (by omega)).bind fun _ r2 hr2 => (H.list _ _ _ _ (by omega)).mono (by omega)
    split
    ·exact Nat.lt_succ_self _
    ·exact (fin_want _ _).mono (by omega)
  ·intro a l hf; rw [behF]
   split
   ·have := sign_pos ‹_›
    exact (H.list _ _ _ _ (by omega)).bind fun _ r hr => (H.beh _ _ (by omega)).mono (by omega)
   split
   ·have := sign_pos ‹_›
    exact (H.ins _ _ (by omega)).bind fun _ r hr => (H.beh _ _ (by omega)).mono (by omega)
   ·exact Nat.lt_succ_self _
  ·intro a l hf; rw [insF]
   split
   ·exact (fin_want _ _).bind fun _ r hr => (H.end_ _ _ _ (by omega)).mono (by omega)
   ·refine (H.expr _ _ (by omega)).bind fun _ r hr => ?_
    split
    ·have := sign_pos ‹_›
     show r.tail.length < _; omega
    ·exact (fin_want _ _).bind fun _ r2 hr2 => (H.end_ _ _ _ (by omega)).mono (by omega)
  ·intro a b l hf; rw [endF]
   refine Fin.bind (k := l.length + 1) ?_ fun _ r hr => (fin_want _ _).bind fun _ r2 hr2 => by show r2.length < _; omega
   split
   ·exact Nat.lt_succ_self _
   ·exact (H.expr _ _ (by omega)).mono (by omega)
  ·intro k s l hf; rw [funF]
   exact (fin_want _ _).bind fun _ r hr => (fin_pars _ _ _ (by omega)).bind fun _ r2 hr2 => (fin_res _ _ (by omega)).bind fun _ r3 hr3 => (H.block _ (by omega)).bind fun _ r4 hr4 => by show r4.length < _; omega
  ·intro l hf; rw [blockF]
   exact (fin_want _ _).bind fun _ r hr => (H.stms _ _ (by omega)).bind fun _ r2 hr2 => by show r2.length < _; omega
  ·intro ks l hf; rw [stmsF]
   split
   ·exact sign_pos ‹_›
   split
   ·have := kind_pos ‹_› (by decide)
    exact (H.stms _ _ (by omega)).mono (by omega)
   ·refine (H.stm _ (by omega)).bind fun _ r hr => ?_
    split
    ·exact (H.stms _ _ (by omega)).mono (by omega)
    ·exact trivial
  ·intro l hf; rw [stmF]
   split
   ·exact H.block _ (by omega)
   split
   ·have := sign_pos ‹_›
    exact (fin_name _).bind fun _ r hr => ((fin_typ f).1 _ (by omega)).bind fun _ r2 hr2 => by show r2.length < _; omega
   split
   ·have := sign_pos ‹_›
    exact (H.ifs _ (by omega)).mono (by omega)
   split
   ·have := sign_pos ‹_›
    refine Fin.bind (k := l.length) ?_ fun _ r hr => (H.block _ (by omega)).bind fun _ r2 hr2 => by show r2.length < _; omega
    split
    ·exact this
    ·exact (H.expr _ _ (by omega)).bind fun _ r hr => by show r.length < _; omega
   split
   ·exact sign_pos ‹_›
   split
   ·exact sign_pos ‹_›
   split
   ·have := sign_pos ‹_›
    split
    ·exact this
    ·exact (H.expr _ _ (by omega)).bind fun _ r hr => by show r.length < _; omega
   split
   ·have := sign_pos ‹_›
    refine (H.expr _ _ (by omega)).bind fun _ r hr => ?_
    split
    ·show r.length < _; omega
    ·exact trivial
   ·exact H.sim _ (by omega)
  ·intro l hf; rw [ifsF]
   refine (H.expr _ _ (by omega)).bind fun _ r hr => (H.block _ (by omega)).bind fun _ r2 hr2 => ?_
   split
   ·have := sign_pos ‹_›
    refine Fin.bind (k := r2.length) ?_ fun _ r3 hr3 => by show r3.length < _; omega
    split
    ·have := sign_pos ‹_›
     exact (H.ifs _ (by omega)).mono (by omega)
    ·exact (H.block _ (by omega)).mono (by omega)
   ·show r2.length < _; omega
  ·intro l hf; rw [simF]
   split
   ·have := define_pos ‹_›
    exact (H.expr _ _ (by omega)).bind fun _ r hr => by show r.length < _; omega
   ·refine (H.expr _ _ (by omega)).bind fun _ r hr => ?_
    split
    ·have := sign_pos ‹_›
     split
     ·exact (H.expr _ _ (by omega)).bind fun _ r2 hr2 => by show r2.length < _; omega
     ·exact trivial
    ·split
     ·show r.length < _; omega
     ·exact trivial
end Go.Proofs.Ytcjgagmcnmmfoaa.Pa

namespace Go.Proofs.Ytcjgagmcnmmfoaa

def regOf (n : Nat) : Code → List Oper
 | .region id ops _ => if id = n then ops.toList else []
 | .seq a b => regOf n a ++ regOf n b
 | .cond _ a b => regOf n a ++ regOf n b
 | .block _ b => regOf n b
 | .loop b => regOf n b
 | .rangeFunc _ _ a b => regOf n a ++ regOf n b
 | .scope b => regOf n b
 | _ => []
def regArr (f : Func) (n : Nat) : Array Oper := ((f.body.map (regOf n)).getD []).toArray
end Go.Proofs.Ytcjgagmcnmmfoaa

namespace Go.Proofs.Ytcjgagmcnmmfoaa

theorem OpStepK.by_ {P : Program} {ops : Array Oper} {Q : Exit → Act → World → Prop} {a0 : Act} {D : List (List Nat)} {G : World → Prop} {Rl : List (Value → World → Prop)} {i : Nat} {o : Oper}
  (h : ∀ (a : Act) (x : Nat → Value) (w : World), (∀ t : Nat, a.eval (.tmp t) = (putsFrom ops.toList 0 x a0).eval (.tmp t)) → (∀ t : Nat, a.tmps[t]? = (putsFrom ops.toList 0 x a0).tmps[t]?) → G w → DepsAll Rl x w (D.getD i []) → ∀ K : Act → World → Prop,
   Shut (∀ v w', Kp w w' → relAt Rl i v w' → K (a.put o.dst v) w') → OpGoal P ops Q o a w K) : OpStepK P ops Q a0 D G Rl i o :=
 fun x w hg hd K hK => h _ x w (fun _ => rfl) (fun _ => rfl) hg hd K hK
theorem OpGoal.live {P : Program} {ops : Array Oper} {Q : Exit → Act → World → Prop} {o : Oper} {a : Act} {w : World} {K : Act → World → Prop} (hw : Region.wanted o (yielded ops a.tmps) = true) (h : Oper.wp P o a w K Q) : OpGoal P ops Q o a w K := ⟨by rw [if_pos hw]; exact h⟩
theorem OpGoal.dead {P : Program} {ops : Array Oper} {Q : Exit → Act → World → Prop} {o : Oper} {a : Act} {w : World} {K : Act → World → Prop} (hw : Region.wanted o (yielded ops a.tmps) = false) (h : K (a.put o.dst undef) w) : OpGoal P ops Q o a w K := ⟨by rw [if_neg (by rw [hw]; decide)]; exact h⟩
theorem wanted_free {o : Oper} {y : Nat → Option Bool} (h : o.guard = none) : Region.wanted o y = true := by unfold Region.wanted; rw [h]
theorem yield_at {ops : Array Oper} {tm : Array Value} {j d : Nat} {c : Bool} (h : (ops[j]?).bind (·.dst) = some d) (ht : tm[d]? = some (.bool c)) : yielded ops tm j = some c := by unfold yielded; rw [h]; show (match tm[d]? with | some (.bool b) => some b | _ => none) = _; rw [ht]
theorem wanted_yes {ops : Array Oper} {o : Oper} {tm : Array Value} {j d : Nat} {b : Bool} (hg : o.guard = some (j, b)) (h : (ops[j]?).bind (·.dst) = some d) (ht : tm[d]? = some (.bool b)) : Region.wanted o (yielded ops tm) = true := by
 unfold Region.wanted; rw [hg]; simp [yield_at h ht]
theorem wanted_no {ops : Array Oper} {o : Oper} {tm : Array Value} {j d : Nat} {b c : Bool} (hg : o.guard = some (j, b)) (h : (ops[j]?).bind (·.dst) = some d) (ht : tm[d]? = some (.bool c)) (hc : c ≠ b) : Region.wanted o (yielded ops tm) = false := by
 unfold Region.wanted; rw [hg]; simp [yield_at h ht, hc]
theorem wanted_un {ops : Array Oper} {o : Oper} {tm : Array Value} {j d : Nat} {b : Bool} (hg : o.guard = some (j, b)) (h : (ops[j]?).bind (·.dst) = some d) (ht : tm[d]? = some undef) : Region.wanted o (yielded ops tm) = false := by
 have hy : yielded ops tm j = none := by unfold yielded; rw [h]; show (match tm[d]? with | some (.bool b) => some b | _ => none) = _; rw [ht]; rfl
 unfold Region.wanted; rw [hg]; simp [hy]
abbrev eqV (v : Value) : Value → World → Prop := fun y _ => y = v
section
variable {P : Program} {ops : Array Oper} {Q : Exit → Act → World → Prop} {a0 : Act} {D : List (List Nat)} {G : World → Prop} {Rl : List (Value → World → Prop)} {i : Nat} {o : Oper}
theorem OpStepK.no (j d : Nat) (b c : Bool) (hg : o.guard = some (j, b)) (hb : (ops[j]?).bind (·.dst) = some d) (hc : c ≠ b) (hs : ∀ x w, DepsAll Rl x w (D.getD i []) → (putsFrom ops.toList 0 x a0).tmps[d]? = some (.bool c)) (hR : ∀ w, relAt Rl i undef w) : OpStepK P ops Q a0 D G Rl i o :=
 fun x w _ hd K hK => OpGoal.dead (wanted_no hg hb (hs x w hd) hc) (hK.out _ _ (Kp.refl _) (hR w))
theorem OpStepK.un (j d : Nat) (b : Bool) (hg : o.guard = some (j, b)) (hb : (ops[j]?).bind (·.dst) = some d) (hs : ∀ x w, DepsAll Rl x w (D.getD i []) → (putsFrom ops.toList 0 x a0).tmps[d]? = some undef) (hR : ∀ w, relAt Rl i undef w) : OpStepK P ops Q a0 D G Rl i o :=
 fun x w _ hd K hK => OpGoal.dead (wanted_un hg hb (hs x w hd)) (hK.out _ _ (Kp.refl _) (hR w))
def Wan (ops : Array Oper) (a0 : Act) (D : List (List Nat)) (Rl : List (Value → World → Prop)) (i : Nat) (o : Oper) : Prop := ∀ x w, DepsAll Rl x w (D.getD i []) → Region.wanted o (yielded ops (putsFrom ops.toList 0 x a0).tmps) = true
theorem free_ (h : o.guard = none) : Wan ops a0 D Rl i o := fun _ _ _ => wanted_free h
theorem yes_ (j d : Nat) (b : Bool) (hg : o.guard = some (j, b)) (hb : (ops[j]?).bind (·.dst) = some d) (hs : ∀ x w, DepsAll Rl x w (D.getD i []) → (putsFrom ops.toList 0 x a0).tmps[d]? = some (.bool b)) : Wan ops a0 D Rl i o := fun x w hd => wanted_yes hg hb (hs x w hd)
theorem OpStepK.mv (t : Nat) (V : Value) (hop : o.op = .move (.tmp t)) (hw : Wan ops a0 D Rl i o) (hs : ∀ x w, DepsAll Rl x w (D.getD i []) → (putsFrom ops.toList 0 x a0).eval (.tmp t) = V) (hR : ∀ w, relAt Rl i V w) : OpStepK P ops Q a0 D G Rl i o :=
 fun x w _ hd K hK => OpGoal.live (hw x w hd) (BigFrame.wp_move _ hop (by rw [hs x w hd]; exact hK.out _ _ (Kp.refl _) (hR w)))
theorem OpStepK.as (t : Nat) (V : Value) (hop : o.op = .assign (.tmp t)) (hw : Wan ops a0 D Rl i o) (hs : ∀ x w, DepsAll Rl x w (D.getD i []) → (putsFrom ops.toList 0 x a0).eval (.tmp t) = V) (hR : ∀ w, relAt Rl i V w) : OpStepK P ops Q a0 D G Rl i o :=
 fun x w _ hd K hK => OpGoal.live (hw x w hd) (BigFrame.wp_assign _ hop (by rw [hs x w hd]; exact hK.out _ _ (Kp.refl _) (hR w)))
theorem OpStepK.op1 (t : Nat) (V : Value) (hw : Wan ops a0 D Rl i o) (hs : ∀ x w, DepsAll Rl x w (D.getD i []) → (putsFrom ops.toList 0 x a0).tmps[t]? = some V) (h : ∀ (a : Act) (u : World), a.tmps[t]? = some V → G u → ∀ K : Act → World → Prop, Shut (∀ v w', Kp u w' → relAt Rl i v w' → K (a.put o.dst v) w') → Oper.wp P o a u K Q) : OpStepK P ops Q a0 D G Rl i o :=
 fun x w hg hd K hK => OpGoal.live (hw x w hd) (h _ w (hs x w hd) hg K hK)
theorem OpStepK.op2 (t t' : Nat) (V V' : Value) (hw : Wan ops a0 D Rl i o) (hs : ∀ x w, DepsAll Rl x w (D.getD i []) → (putsFrom ops.toList 0 x a0).tmps[t]? = some V) (hs' : ∀ x w, DepsAll Rl x w (D.getD i []) → (putsFrom ops.toList 0 x a0).tmps[t']? = some V') (h : ∀ (a : Act) (u : World), a.tmps[t]? = some V → a.tmps[t']? = some V' → G u → ∀ K : Act → World → Prop, Shut (∀ v w', Kp u w' → relAt Rl i v w' → K (a.put o.dst v) w') → Oper.wp P o a u K Q) : OpStepK P ops Q a0 D G Rl i o :=
 fun x w hg hd K hK => OpGoal.live (hw x w hd) (h _ w (hs x w hd) (hs' x w hd) hg K hK)
end
end Go.Proofs.Ytcjgagmcnmmfoaa

namespace Go.Proofs.Ytcjgagmcnmmfoaa
open Go.RowKit

theorem byte_beq (x : UInt8) (n : Nat) (hn : n < 256) : ((x.toNat : Int) == n) = (x == UInt8.ofNat n) := by
 by_cases h : x = UInt8.ofNat n
 ·subst h; rw [beq_self_eq_true, beq_iff_eq]; rw [UInt8.toNat_ofNat']; omega
 ·rw [beq_eq_false_iff_ne.2 h, beq_eq_false_iff_ne]
  intro h2; apply h; apply UInt8.toNat_inj.1; rw [UInt8.toNat_ofNat']; omega
theorem beq_dec (x : UInt8) (n : Nat) (hn : n < 256) : (x == UInt8.ofNat n) = decide (x.toNat = n) := by
 rw [← byte_beq x n hn]
 by_cases h : x.toNat = n
 ·rw [decide_eq_true h, beq_iff_eq]; omega
 ·rw [decide_eq_false h, beq_eq_false_iff_ne]; omega
theorem letter_eq (b : UInt8) : letterB b = ((decide (97 ≤ b.toNat) && decide (b.toNat ≤ 122)) || (decide (65 ≤ b.toNat) && decide (b.toNat ≤ 90)) || decide (b.toNat = 95)) := by
 unfold letterB; rw [show (95 : UInt8) = UInt8.ofNat 95 from rfl, beq_dec b 95 (by decide)]
theorem letter_any (b : UInt8) (w : World) : Calls Try.prog 26 #[.int .u8 b.toNat] w fun e w' => e = .returned (.bool (letterB b)) ∧ w = w' := by
 rw [letter_eq]
 generalize b.toNat = n
 by_cases h1 : 97 ≤ n
 ·by_cases h2 : n ≤ 122
  ·rw [decide_eq_true h1, decide_eq_true h2]
   have i1 : (97 : Int) ≤ (n : Int) := by omega
   have i2 : (n : Int) ≤ 122 := by omega
   clear h1 h2
   go_enter Try.func26, Try.ntmps26
   go_wp2
   go_ret
   exact ⟨rfl, rfl⟩
  ·have e : ((decide (97 ≤ n) && decide (n ≤ 122)) || (decide (65 ≤ n) && decide (n ≤ 90)) || decide (n = 95)) = false := by simp; omega
   rw [e]
   have i1 : (97 : Int) ≤ (n : Int) := by omega
   have i2 : ¬ (n : Int) ≤ 122 := by omega
   have i3 : (65 : Int) ≤ (n : Int) := by omega
   have i4 : ¬ (n : Int) ≤ 90 := by omega
   have i5 : ((n : Int) == 95) = false := by rw [beq_eq_false_iff_ne]; omega
   clear h1 h2 e
   go_enter Try.func26, Try.ntmps26
   go_wp2
   go_ret
   exact ⟨rfl, rfl⟩
 ·have i1 : ¬ (97 : Int) ≤ (n : Int) := by omega
  by_cases h2 : 65 ≤ n
  ·have i3 : (65 : Int) ≤ (n : Int) := by omega
   by_cases h3 : n ≤ 90
   ·have e : ((decide (97 ≤ n) && decide (n ≤ 122)) || (decide (65 ≤ n) && decide (n ≤ 90)) || decide (n = 95)) = true := by simp; omega
    rw [e]
    have i4 : (n : Int) ≤ 90 := by omega
    clear h1 h2 h3 e
    go_enter Try.func26, Try.ntmps26
    go_wp2
    go_ret
    exact ⟨rfl, rfl⟩
   ·have i4 : ¬ (n : Int) ≤ 90 := by omega
    by_cases h4 : n = 95
    ·have e : ((decide (97 ≤ n) && decide (n ≤ 122)) || (decide (65 ≤ n) && decide (n ≤ 90)) || decide (n = 95)) = true := by simp; omega
     rw [e]
     have i5 : ((n : Int) == 95) = true := by rw [beq_iff_eq]; omega
     clear h1 h2 h3 h4 e
     go_enter Try.func26, Try.ntmps26
     go_wp2
     go_ret
     exact ⟨rfl, rfl⟩
    ·have e : ((decide (97 ≤ n) && decide (n ≤ 122)) || (decide (65 ≤ n) && decide (n ≤ 90)) || decide (n = 95)) = false := by simp; omega
     rw [e]
     have i5 : ((n : Int) == 95) = false := by rw [beq_eq_false_iff_ne]; omega
     clear h1 h2 h3 h4 e
     go_enter Try.func26, Try.ntmps26
     go_wp2
     go_ret
     exact ⟨rfl, rfl⟩
  ·have e : ((decide (97 ≤ n) && decide (n ≤ 122)) || (decide (65 ≤ n) && decide (n ≤ 90)) || decide (n = 95)) = false := by simp; omega
   rw [e]
   have i3 : ¬ (65 : Int) ≤ (n : Int) := by omega
   have i5 : ((n : Int) == 95) = false := by rw [beq_eq_false_iff_ne]; omega
   clear h1 h2 e
   go_enter Try.func26, Try.ntmps26
   go_wp2
   go_ret
   exact ⟨rfl, rfl⟩
theorem digit_any (b : UInt8) (w : World) : Calls Try.prog 28 #[.int .u8 b.toNat] w fun e w' => e = .returned (.bool (digitB b)) ∧ w = w' := by
 unfold digitB
 generalize b.toNat = n
 by_cases h1 : 48 ≤ n
 ·have i1 : (48 : Int) ≤ (n : Int) := by omega
  by_cases h2 : n ≤ 57
  ·have i2 : (n : Int) ≤ 57 := by omega
   rw [decide_eq_true h1, decide_eq_true h2]
   clear h1 h2
   go_enter Try.func28, Try.ntmps28
   go_wp2
   go_ret
   exact ⟨rfl, rfl⟩
  ·have i2 : ¬ (n : Int) ≤ 57 := by omega
   rw [decide_eq_true h1, decide_eq_false h2]
   clear h1 h2
   go_enter Try.func28, Try.ntmps28
   go_wp2
   go_ret
   exact ⟨rfl, rfl⟩
 ·have i1 : ¬ (48 : Int) ≤ (n : Int) := by omega
  rw [decide_eq_false h1]
  clear h1
  go_enter Try.func28, Try.ntmps28
  go_wp2
  go_ret
  exact ⟨rfl, rfl⟩
theorem word_word (s : ByteArray) (w : World) : Calls Try.prog 43 #[.string s] w fun e w' => e = .returned (.bool (isWord s.data.toList)) ∧ w = w' := by
 rw [← ByteArray.toList_eq]
 have hW : isWord s.toList = wordsL.any (s.toList == ·) := by unfold isWord; rw [List.contains_eq_any_beq]
 rw [hW]
 unfold wordsL kFunc kVar kIf kElse kFor kBreak kContinue kReturn kDefer kTrue kFalse kNil kInt kBool kString kAny
 clear hW
 go_enter Try.func43, Try.ntmps43
 go_wp2
 all_goals (go_ret; refine ⟨?_, rfl⟩; simp_all)
abbrev tokV (t : TokenM) : Value := .agg #[.int .i64 t.kind, .string t.text, .int .i64 t.line, .int .i64 t.col]
theorem ends_any (t : TokenM) (w : World) : Calls Try.prog 34 #[tokV t] w fun e w' => e = .returned (.bool (endsT t.kind t.text)) ∧ Kp w w' := by
 obtain ⟨k, s, l, c⟩ := t
 unfold tokV endsT
 dsimp only
 rw [← ByteArray.toList_eq]
 by_cases h1 : k = 1
 ·have t1 : (k == 1) = true := by simp [h1]
  rw [if_pos (.inl h1)]
  clear h1
  go_enter Try.func34, Try.ntmps34
  go_wp2
  go_ret
  exact ⟨rfl, (Kp.refl _).alloc _⟩
 have t1 : (k == 1) = false := by simp [h1]
 by_cases h2 : k = 2
 ·have t2 : (k == 2) = true := by simp [h2]
  rw [if_pos (.inr (.inl h2))]
  clear h1 h2
  go_enter Try.func34, Try.ntmps34
  go_wp2
  go_ret
  exact ⟨rfl, (Kp.refl _).alloc _⟩
 have t2 : (k == 2) = false := by simp [h2]
 by_cases h3 : k = 3
 ·have t3 : (k == 3) = true := by simp [h3]
  rw [if_pos (.inr (.inr h3))]
  clear h1 h2 h3
  go_enter Try.func34, Try.ntmps34
  go_wp2
  go_ret
  exact ⟨rfl, (Kp.refl _).alloc _⟩
 have t3 : (k == 3) = false := by simp [h3]
 rw [if_neg (by omega)]
 by_cases h4 : k = 4
 ·have t4 : (k == 4) = true := by simp [h4]
  rw [if_pos h4]
  have hW : endSigns.contains s.toList = endSigns.any (s.toList == ·) := by rw [List.contains_eq_any_beq]
  rw [hW]
  unfold endSigns
  clear h1 h2 h3 h4 hW
  cases c1 : s.toList == [41]
  ·cases c2 : s.toList == [93]
   ·cases c3 : s.toList == [125]
    ·go_enter Try.func34, Try.ntmps34
     go_wp2
     go_ret
     exact ⟨by simp [c1, c2, c3], (Kp.refl _).alloc _⟩
    ·go_enter Try.func34, Try.ntmps34
     go_wp2
     go_ret
     exact ⟨by simp [c1, c2, c3], (Kp.refl _).alloc _⟩
   ·go_enter Try.func34, Try.ntmps34
    go_wp2
    go_ret
    exact ⟨by simp [c1, c2], (Kp.refl _).alloc _⟩
  ·go_enter Try.func34, Try.ntmps34
   go_wp2
   go_ret
   exact ⟨by simp [c1], (Kp.refl _).alloc _⟩
 have t4 : (k == 4) = false := by simp [h4]
 rw [if_neg h4]
 by_cases h5 : k = 5
 ·have t5 : (k == 5) = true := by simp [h5]
  rw [if_pos h5]
  have hW : endWords.contains s.toList = endWords.any (s.toList == ·) := by rw [List.contains_eq_any_beq]
  rw [hW]
  unfold endWords kBreak kContinue kReturn kTrue kFalse kNil kInt kBool kString kAny
  clear h1 h2 h3 h4 h5 hW
  go_enter Try.func34, Try.ntmps34
  go_wp2
  all_goals (go_ret; refine ⟨?_, (Kp.refl _).alloc _⟩; simp_all)
 ·have t5 : (k == 5) = false := by simp [h5]
  rw [if_neg h5]
  clear h1 h2 h3 h4 h5
  go_enter Try.func34, Try.ntmps34
  go_wp2
  go_ret
  exact ⟨rfl, (Kp.refl _).alloc _⟩
theorem index_neg : ∀ (l : Bs) (c : UInt8), (decide ((0 : Int) ≤ Lib.indexByte l c)) = l.contains c
 | [], c => by simp [Lib.indexByte]
 | b :: l, c => by
  have ih := index_neg l c
  unfold Lib.indexByte
  by_cases h : b == c
  ·rw [if_pos h]
   have := eq_of_beq h
   subst this; simp
  ·rw [if_neg h]
   have hne : ¬ b = c := fun e => h (by rw [e]; exact beq_self_eq_true c)
   have e : (b :: l).contains c = l.contains c := by
    rw [List.contains_cons]
    have : (c == b) = false := by rw [beq_eq_false_iff_ne]; exact fun e => hne e.symm
    rw [this, Bool.false_or]
   rw [e, ← ih]
   by_cases h2 : Lib.indexByte l c == -1
   ·rw [if_pos h2]
    have := eq_of_beq h2
    rw [this]
   ·rw [if_neg h2]
    have h3 : Lib.indexByte l c ≠ -1 := fun e => h2 (by rw [e]; rfl)
    have h4 : -1 ≤ Lib.indexByte l c := by
     clear ih h2 h3 e
     induction l with
     | nil => simp [Lib.indexByte]
     | cons x r ih2 =>
      unfold Lib.indexByte
      split
      ·omega
      ·split <;> omega
    by_cases h5 : 0 ≤ Lib.indexByte l c
    ·rw [decide_eq_true h5, decide_eq_true (by omega)]
    ·exfalso; omega
theorem sg_any (d : UInt8) (w : World) : Calls Try.prog 46 #[.string ⟨#[43, 45, 42, 47, 37, 38, 124, 94, 60, 62, 61, 40, 41, 123, 125, 91, 93, 44, 58, 33]⟩, .int .u8 d.toNat] w fun e w' => e = .returned (.int .i64 (Lib.indexByte signs1 d)) ∧ w = w' := by
 refine (Try.strings_IndexByte ⟨#[43, 45, 42, 47, 37, 38, 124, 94, 60, 62, 61, 40, 41, 123, 125, 91, 93, 44, 58, 33]⟩ d.toNat w).mono ?_
 rintro e w' ⟨rfl, rfl⟩
 refine ⟨ret_int ?_, rfl⟩
 have : ((d.toNat : Int).toNat.toUInt8) = d := by simp
 rw [this]; rfl

theorem ext_take (s : ByteArray) (n : Nat) : (s.extract 0 n).toList = s.data.toList.take n := by
 rw [ByteArray.toList_eq, ByteArray.data_extract, Array.toList_extract, List.extract_eq_take_drop]; simp
theorem rest0 (s : ByteArray) : restOf s 0 = s.data.toList := rfl
theorem sign_two {s : ByteArray} (h : 2 ≤ s.size) : ∃ a b r, s.data.toList = a :: b :: r ∧ (s.extract 0 2).toList = [a, b] ∧ s[0]'(by omega) = a := by
 have e1 := rest_cons (S := s) (c := 0) (by omega)
 have e2 := rest_cons (S := s) (c := 1) (by omega)
 rw [rest0] at e1
 refine ⟨_, _, _, by rw [e1, e2], ?_, rfl⟩
 rw [ext_take, e1, e2]; rfl
theorem sign_any (s : ByteArray) (w : World) (hs : s.size ≤ 140737488351232) : Calls Try.prog 32 #[.string s] w fun e w' => e = .returned (.string (s.extract 0 (signLen s.data.toList))) ∧ Kp w w' := by
 by_cases h2 : 2 ≤ s.size
 ·obtain ⟨a, b, r, hl, ht, h0⟩ := sign_two h2
  have hS : signLen s.data.toList = if signs2.any ([a, b] == ·) then 2 else if decide ((0 : Int) ≤ Lib.indexByte signs1 a) then 1 else 0 := by
   rw [hl, index_neg, ← List.contains_eq_any_beq]; rfl
  have i0 : (2 : Int) ≤ (s.size : Int) := by omega
  rw [hS]
  generalize hI : Lib.indexByte signs1 a = I
  have HI := hid hI
  unfold signs2
  have hne : (s.toList == []) = false := by rw [ByteArray.toList_eq, hl]; rfl
  have hne' : (s.toList != []) = true := by rw [bne, hne]; rfl
  obtain ⟨t, hT⟩ : ∃ t, s.extract 0 2 = t := ⟨_, rfl⟩
  rw [hT] at ht
  rw [← ht]
  obtain ⟨t1, hT1⟩ : ∃ t, s.extract 0 1 = t := ⟨_, rfl⟩
  have H0 := hid h0
  clear hl hS hI hs ht
  have i3 : (1 : Int) ≤ (s.size : Int) := by omega
  have i4 : (0 : Int) < (s.size : Int) := by omega
  go_enter Try.func32, Try.ntmps32
  go_wp2_with (go_at_call 46; refine (sg_any a _).mono ?_; rintro e w1 ⟨rfl, rfl⟩; rw [HI.out])
  all_goals (go_ret; refine ⟨?_, Kp.refl _⟩; simp_all <;> first | rfl | omega)
 ·by_cases h0 : 0 < s.size
  ·obtain ⟨a, ha⟩ : ∃ a, s[0] = a := ⟨_, rfl⟩
   have hl : s.data.toList = [a] := by
    have e1 := rest_cons (S := s) (c := 0) h0
    rw [rest0, ha, rest_nil (by omega)] at e1
    exact e1
   have hS : signLen s.data.toList = if decide ((0 : Int) ≤ Lib.indexByte signs1 a) then 1 else 0 := by
    rw [hl, index_neg]; rfl
   have i0 : ¬ (2 : Int) ≤ (s.size : Int) := by omega
   rw [hS]
   generalize hI : Lib.indexByte signs1 a = I
   have HI := hid hI
   have hne : (s.toList == []) = false := by rw [ByteArray.toList_eq, hl]; rfl
   have hne' : (s.toList != []) = true := by rw [bne, hne]; rfl
   obtain ⟨t1, hT1⟩ : ∃ t, s.extract 0 1 = t := ⟨_, rfl⟩
   have i3 : (1 : Int) ≤ (s.size : Int) := by omega
   have i4 : (0 : Int) < (s.size : Int) := by omega
   clear hl hS hI hs
   go_enter Try.func32, Try.ntmps32
   go_wp2_with (go_at_call 46; refine (sg_any a _).mono ?_; rintro e w1 ⟨rfl, rfl⟩; rw [HI.out])
   all_goals (go_ret; refine ⟨?_, Kp.refl _⟩; simp_all <;> first | rfl | omega)
  ·obtain rfl : s = ⟨#[]⟩ := by cases s with | mk a => congr 1; exact Array.eq_empty_of_size_eq_zero (by simp [ByteArray.size] at h0; simpa using h0)
   clear h2 h0 hs
   go_enter Try.func32, Try.ntmps32
   go_wp2
   go_ret
   exact ⟨rfl, Kp.refl _⟩
end Go.Proofs.Ytcjgagmcnmmfoaa

namespace Go.Proofs.Ytcjgagmcnmmfoaa
open Go.RowKit

def cellD (w : World) (b o : Nat) : Value := (w.cell? ⟨b, o, none⟩).getD undef
abbrev BoxAt (w : World) (b o : Nat) : Prop := w.cell? ⟨b, o, none⟩ = some (cellD w b o) ∧ w.frozen? ⟨b, o, none⟩ = false
theorem BoxAt.mk_ {w : World} {b o : Nat} {v : Value} (h : w.cell? ⟨b, o, none⟩ = some v) (hf : w.frozen? ⟨b, o, none⟩ = false) : BoxAt w b o := ⟨by unfold cellD; rw [h]; rfl, hf⟩
theorem BoxAt.kp {w w' : World} {b o : Nat} (h : BoxAt w b o) (hk : Kp w w') (hb : b < w.heap.size) : BoxAt w' b o :=
 BoxAt.mk_ ((hk.cells.1 _ _ hb).trans h.1) ((hk.cells.2 _ _ hb).trans h.2)
theorem BoxAt.below {B : Nat} {w w' : World} {b o : Nat} (h : BoxAt w b o) (hk : Below B w w') (hb : b < B) : BoxAt w' b o :=
 BoxAt.mk_ (((below_cells hk).1 _ _ hb).trans h.1) (((below_cells hk).2 _ _ hb).trans h.2)
theorem BoxAt.setCell {w : World} {b o : Nat} (h : BoxAt w b o) (p : Addr) (v : Value) : BoxAt (w.setCell p v) b o := by
 by_cases e : p = ⟨b, o, none⟩
 ·subst e
  exact BoxAt.mk_ (World.cell?_setCell_same _ _ _ h.1) ((World.frozen?_setCell _ _ _ _).trans h.2)
 ·exact BoxAt.mk_ ((World.cell?_setCell_other _ _ _ _ e).trans h.1) ((World.frozen?_setCell _ _ _ _).trans h.2)
end Go.Proofs.Ytcjgagmcnmmfoaa

namespace Go.Proofs.Ytcjgagmcnmmfoaa
open Go.RowKit

theorem rowSet {w : World} {base g n c size j : Nat} {e : TypeId} {xs : List Value} (h : w.ownsRow base e size (.slice (some ⟨g, 0, none⟩) n c) n xs) (hj : j < n * size) (u : Value) : (w.setCell ⟨g, j, none⟩ u).ownsRow base e size (.slice (some ⟨g, 0, none⟩) n c) n (xs.set j u) := by
 obtain ⟨h1, h2⟩ := h
 refine ⟨by rw [List.length_set]; exact h1, .inr ?_⟩
 rcases h2 with ⟨h2, _⟩ | ⟨g', cap', cur, hv, hb, hg, hnc, hm, hsz, htk⟩
 ·cases h2
 ·cases hv
  refine ⟨g, c, cur.setIfInBounds j u, rfl, hb, blk_set hg u, hnc, hm, by simpa using hsz, ?_⟩
  rw [Array.toList_setIfInBounds, List.take_set, htk]
theorem rowTouch {w : World} {g o : Nat} {xs : Array Value} {e : TypeId} {fr : Nat × Nat} (h : w.heap[g]? = some (.cells xs e fr)) (v : Value) : Touch e w (w.setCell ⟨g, o, none⟩ v) := by
 refine ⟨by simp [World.setCell], fun k x h1 h2 => ?_⟩
 by_cases hk : k = g
 ·subst hk
  rw [h] at h1
  exact absurd (Option.some.inj h1).symm (h2 xs fr)
 ·rw [blk_far (p := ⟨g, o, none⟩) hk]; exact h1
theorem rowGe {w : World} {base size n c g : Nat} {e : TypeId} {xs : List Value} (h : w.ownsRow base e size (.slice (some ⟨g, 0, none⟩) n c) n xs) : base ≤ g ∧ g < w.heap.size := by
 rcases h.2 with ⟨h2, _⟩ | ⟨g', cap', cur, hv, hb, hg, _⟩
 ·cases h2
 ·cases hv; exact ⟨hb, blk_lt hg⟩
theorem rowSome {w : World} {base size n : Nat} {e : TypeId} {v : Value} {xs : List Value} (h : w.ownsRow base e size v n xs) (hn : 0 < n) : ∃ g c, v = .slice (some ⟨g, 0, none⟩) n c ∧ n ≤ c := by
 rcases h.2 with ⟨_, h2⟩ | ⟨g', cap', cur, hv, hb, hg, hnc, _⟩
 ·omega
 ·exact ⟨_, _, hv, hnc⟩
theorem rowAt {w : World} {base size n c g j : Nat} {e : TypeId} {xs : List Value} (h : w.ownsRow base e size (.slice (some ⟨g, 0, none⟩) n c) n xs) (hj : j < n * size) : w.cell? ⟨g, j, none⟩ = xs[j]? ∧ w.frozen? ⟨g, j, none⟩ = false := by
 rcases h.2 with ⟨h2, _⟩ | ⟨g', cap', cur, hv, hb, hg, hnc, hm, hsz, htk⟩
 ·cases h2
 ·cases hv
  have hc : w.cell? ⟨g, j, none⟩ = cur[j]? := by simp [World.cell?, hg]
  refine ⟨?_, blk_free hg⟩
  rw [hc, ← htk, List.getElem?_take, if_pos hj, Array.getElem?_toList]
end Go.Proofs.Ytcjgagmcnmmfoaa

namespace Go.Proofs.Ytcjgagmcnmmfoaa
open Go.RowKit

theorem wp_appP {P : Program} {Q : Exit → Act → World → Prop} {o : Oper} {a : Act} {w0 : World} {t e : TypeId} {z v : Value} {size bytes base n : Nat} {xs : List Value} {K : Act → World → Prop} (E : El P t e z size bytes) (s x : Operand) (ho : o.op = .call { callee := .builtin .append, args := #[s, x], argTypes := #[t, t] })
  (hown : w0.ownsRow base e size v n xs) (hs : a.eval s = v) (news : List Value) (A : Option Addr) (m c : Nat) (hx : a.eval x = .slice A m c) (hl : news.length = m * size)
  (hcell : 0 < m → ∃ ad, A = some ad ∧ ∀ j u, news[j]? = some u → w0.cell? (ad.add j) = some u)
  (h1 : ∀ u ∈ news, u.oneCell' = true) (h63 : n + m ≤ maxLen) (hbytes : (n + m) * bytes ≤ 140737488355328) (hbase : base ≤ w0.heap.size)
  (h : ∀ v' w', w'.ownsRow base e size v' (n + m) (xs ++ news) → w0.grownBy w' v.ownBlock → Moved w0 v v' → Below base w0 w' → K (a.put o.dst v') w') :
  Oper.wp P o a w0 K Q := by
 obtain ⟨v', w', hrun, g1, g2, g3, g4⟩ := run_app E o.type hown news A m c hl hcell h1 h63 hbytes hbase
 unfold Oper.wp execOp
 simp only [ho, resolve, invoke, builtin, Sem.run_bind, Sem.run_pure, Result.andThen_ok, List.map_toArray, List.map_cons, List.map_nil, hs, hx, hrun]
 exact h v' w' g1 g2 g3 g4
def KpF (B : Nat) (a b : World) : Prop := ∀ (k : Nat) (o : Obj), B ≤ k → a.heap[k]? = some o → b.heap[k]? = some o
theorem KpF.of_kp {B : Nat} {a b : World} (h : Kp a b) : KpF B a b := fun k o _ ho => (h.block k (Array.getElem?_eq_some_iff.1 ho).1).trans ho
theorem KpF.of_grown {B : Nat} {a b : World} {row : Option Nat} (h : a.grownBy b row) (hr : ∀ g, row = some g → g < B) : KpF B a b := fun k o hk ho => (h.block k (Array.getElem?_eq_some_iff.1 ho).1 (fun e => by have := hr k e.symm; omega)).trans ho
theorem KpF.setCell {B g i : Nat} {a : World} (hg : g < B) (v : Value) : KpF B a (a.setCell ⟨g, i, none⟩ v) := fun k o hk ho => (blk_far (p := ⟨g, i, none⟩) (by show k ≠ g; omega) v).trans ho
def LitAt (B : Nat) (T : TypeId) (cs : Array Value) (y : Value) (u : World) : Prop := ∃ b, y = .slice (some ⟨b, 0, none⟩) 1 1 ∧ B ≤ b ∧ u.heap[b]? = some (.cells cs T (0, 0))
theorem LitAt.keep {B : Nat} {T : TypeId} {cs : Array Value} {y : Value} {u u' : World} (h : LitAt B T cs y u) (hk : KpF B u u') : LitAt B T cs y u' := by
 obtain ⟨b, h1, h2, h3⟩ := h
 exact ⟨b, h1, h2, hk b _ h2 h3⟩
theorem lit_src {T : TypeId} {cs : Array Value} {b : Nat} {u : World} (h : u.heap[b]? = some (.cells cs T (0, 0))) : ∀ j x, cs.toList[j]? = some x → u.cell? ((⟨b, 0, none⟩ : Addr).add j) = some x := by
 intro j x hj
 have e : (⟨b, 0, none⟩ : Addr).add j = ⟨b, j, none⟩ := by unfold Addr.add; split <;> simp_all
 rw [e]
 exact blk_cell h (by rw [← Array.getElem?_toList]; exact hj)
end Go.Proofs.Ytcjgagmcnmmfoaa

namespace Go.Proofs.Ytcjgagmcnmmfoaa
open Go.RowKit

end Go.Proofs.Ytcjgagmcnmmfoaa

