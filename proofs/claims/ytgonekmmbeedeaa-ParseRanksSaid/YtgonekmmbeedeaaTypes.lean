/-
  Package types: the reader's has, one, function. Condition: the text is at most 100 bytes longer than nothing (it lies within the reach).
-/
import Derived.Test.YtgonekmmbeedeaaTypesP
import Derived.Test.YtgonekmmbeedeaaBlk
import Derived.Deep.QuietTactic
import Derived.BigQuiet
import Derived.StillTailTactics
namespace Go.Proofs.Ytgonekmmbeedeaa.Ty
open Go.RowKit
set_option linter.unusedVariables false

/-- The reader at block rp goes through the text S and stands at a. -/
def RdrAt (w : World) (rp : Nat) (S : ByteArray) (a : Nat) : Prop := w.heap[rp]? = some (.cells #[.string S, .int .i64 (a : Int)] 144 (0, 0))
theorem RdrAt.c0 {w : World} {rp : Nat} {S : ByteArray} {a : Nat} (h : RdrAt w rp S a) : w.cell? ⟨rp, 0, none⟩ = some (.string S) := by unfold RdrAt at h; simp [World.cell?, h]
theorem RdrAt.c1 {w : World} {rp : Nat} {S : ByteArray} {a : Nat} (h : RdrAt w rp S a) : w.cell? ⟨rp, 1, none⟩ = some (.int .i64 (a : Int)) := by unfold RdrAt at h; simp [World.cell?, h]
theorem RdrAt.f1 {w : World} {rp : Nat} {S : ByteArray} {a : Nat} (h : RdrAt w rp S a) : w.frozen? ⟨rp, 1, none⟩ = false := by unfold RdrAt at h; simp [World.frozen?, h]
/-- Behind a call: the reader stands at a, nothing else has turned. -/
def Rdk (rp : Nat) (S : ByteArray) (a : Nat) (w w' : World) : Prop := RdrAt w' rp S a ∧ w.grownBy w' (some rp)
theorem str_slice (S K : ByteArray) (a : Nat) (h : a + K.size ≤ S.size) : ((S.extract a (a + K.size)).toList == K.toList) = (pre K.data.toList (S.data.toList.drop a)).isSome := by
  have e1 : (S.extract a (a + K.size)).toList = (S.data.toList.drop a).take K.size := by
    rw [ByteArray.toList_eq, ByteArray.data_extract, Array.toList_extract, List.extract_eq_take_drop]
    congr 1; omega
  have e2 : K.size = K.data.toList.length := by rw [Array.length_toList]; rfl
  rw [e1, ByteArray.toList_eq, e2]
  unfold pre
  by_cases hk : List.take K.data.toList.length (S.data.toList.drop a) = K.data.toList
  · rw [if_pos hk, hk]; simp
  · rw [if_neg hk, beq_eq_false_iff_ne.2 hk]; rfl
theorem pre_fits {K S : ByteArray} {a : Nat} {r : Bs} (ha : a ≤ S.size) (h : pre K.data.toList (S.data.toList.drop a) = some r) : a + K.size ≤ S.size ∧ r = S.data.toList.drop (a + K.size) := by
  have e := pre_iff.1 h
  have hl := congrArg List.length e
  rw [List.length_drop, Array.length_toList, List.length_append, Array.length_toList] at hl
  have e1 : S.data.size = S.size := rfl
  have e2 : K.data.size = K.size := rfl
  refine ⟨by omega, ?_⟩
  rw [← List.drop_drop, e, show K.size = K.data.toList.length by rw [Array.length_toList]; rfl, List.drop_left]
set_option maxRecDepth 20000 in
set_option maxHeartbeats 1000000 in
theorem has_no (w : World) (rp : Nat) (S K : ByteArray) (a : Nat) (h : RdrAt w rp S a) (ha : a ≤ S.size) (hS : S.size ≤ 140737488351232) (hK : K.size ≤ 1000) (hp : pre K.data.toList (S.data.toList.drop a) = none) :
    Calls Try.prog 109 #[.pointer (some ⟨rp, 0, none⟩), .string K] w fun e w' => e = .returned (.bool false) ∧ Rdk rp S a w w' := by
  have c0 := h.c0; have c1 := h.c1
  have H := hid h
  clear h
  by_cases hlt : S.size < a + K.size
  · have hd : decide (((S.size : Int) - (a : Int)) < (K.size : Int)) = true := by rw [decide_eq_true_eq]; omega
    have hw : IntKind.i64.wrap ((S.size : Int) - (a : Int)) = (S.size : Int) - (a : Int) := by rw [IntKind.wrap_i64]; omega
    clear hp
    go_enter Try.func109, Try.ntmps109
    go_wp2
    go_quiet (fail)
    go_wp2
    go_ret
    exact ⟨rfl, H.out, grown_drewN _ _ _⟩
  · have hd : decide (((S.size : Int) - (a : Int)) < (K.size : Int)) = false := by rw [decide_eq_false_iff_not]; omega
    have hw : IntKind.i64.wrap ((S.size : Int) - (a : Int)) = (S.size : Int) - (a : Int) := by rw [IntKind.wrap_i64]; omega
    have hw2 : IntKind.i64.wrap ((a : Int) + (K.size : Int)) = (a : Int) + (K.size : Int) := by rw [IntKind.wrap_i64]; omega
    have hs := str_slice S K a (by omega)
    rw [hp] at hs
    have i1 : (0 : Int) ≤ (a : Int) := by omega
    have i2 : (a : Int) ≤ (a : Int) + (K.size : Int) := by omega
    have i3 : (a : Int) + (K.size : Int) ≤ (S.size : Int) := by omega
    have i4 : ((a : Int) + (K.size : Int)).toNat = a + K.size := by omega
    clear hp
    go_enter Try.func109, Try.ntmps109
    go_wp2
    go_quiet (fail)
    go_wp2
    go_ret
    exact ⟨rfl, H.out, grown_drewN _ _ _⟩
set_option maxRecDepth 20000 in
set_option maxHeartbeats 1000000 in
theorem has_yes (w : World) (rp : Nat) (S K : ByteArray) (a : Nat) (r : Bs) (h : RdrAt w rp S a) (ha : a ≤ S.size) (hS : S.size ≤ 140737488351232) (hK : K.size ≤ 1000) (hp : pre K.data.toList (S.data.toList.drop a) = some r) :
    Calls Try.prog 109 #[.pointer (some ⟨rp, 0, none⟩), .string K] w fun e w' => e = .returned (.bool true) ∧ Rdk rp S (a + K.size) w w' := by
  have c0 := h.c0; have c1 := h.c1; have f1 := h.f1
  have H := hid h
  obtain ⟨hle, _⟩ := pre_fits ha hp
  have hd : decide (((S.size : Int) - (a : Int)) < (K.size : Int)) = false := by rw [decide_eq_false_iff_not]; omega
  have hw : IntKind.i64.wrap ((S.size : Int) - (a : Int)) = (S.size : Int) - (a : Int) := by rw [IntKind.wrap_i64]; omega
  have hw2 : IntKind.i64.wrap ((a : Int) + (K.size : Int)) = (a : Int) + (K.size : Int) := by rw [IntKind.wrap_i64]; omega
  have hs := str_slice S K a hle
  rw [hp] at hs
  have i1 : (0 : Int) ≤ (a : Int) := by omega
  have i2 : (a : Int) ≤ (a : Int) + (K.size : Int) := by omega
  have i3 : (a : Int) + (K.size : Int) ≤ (S.size : Int) := by omega
  have i4 : ((a : Int) + (K.size : Int)).toNat = a + K.size := by omega
  clear hp h
  go_enter Try.func109, Try.ntmps109
  go_wp2
  go_quiet (fail)
  go_wp2
  go_ret
  refine ⟨rfl, blk_set (b := rp) (o := 1) H.out _, ((grown_drewN w nq _).trans (grown_setCell _))⟩
theorem has_to (w : World) (rp : Nat) (S K : ByteArray) (a c : Nat) (r : Bs) (h : RdrAt w rp S a) (ha : a ≤ S.size) (hS : S.size ≤ 140737488351232) (hK : K.size ≤ 1000) (hp : pre K.data.toList (S.data.toList.drop a) = some r) (hc : a + K.size = c) :
    Calls Try.prog 109 #[.pointer (some ⟨rp, 0, none⟩), .string K] w fun e w' => e = .returned (.bool true) ∧ Rdk rp S c w w' := by
  subst hc; exact has_yes w rp S K a r h ha hS hK hp
theorem nil_nil (w : World) : Sem.run Try.prog (binOp .neq 150 .nilFunc .nilFunc) w = .ok (.bool false) w := by kernel_rfl
theorem fun_nil (w : World) (fn : Fn) (x y : Array Value) : Sem.run Try.prog (binOp .neq 150 (.func fn x y) .nilFunc) w = .ok (.bool true) w := by kernel_rfl
/-! ### one, and function without a hearer -/
def wordB : Nat → ByteArray
  | 0 => ⟨#[105, 110, 116]⟩
  | 1 => ⟨#[98, 111, 111, 108]⟩
  | 2 => ⟨#[115, 116, 114, 105, 110, 103]⟩
  | 3 => ⟨#[97, 110, 121]⟩
  | 4 => ⟨#[91, 93, 105, 110, 116]⟩
  | _ => ⟨#[42, 105, 110, 116]⟩
def wordsV : Array Value := #[.string (wordB 0), .string (wordB 1), .string (wordB 2), .string (wordB 3), .string (wordB 4), .string (wordB 5)]
theorem words_at : ∀ k, k < 6 → wordsV[k]? = some (.string (wordB k)) ∧ (wordB k).size ≤ 1000 ∧ tyWords.drop k = (wordB k).data.toList :: tyWords.drop (k + 1)
  | 0, _ => ⟨rfl, by decide, rfl⟩
  | 1, _ => ⟨rfl, by decide, rfl⟩
  | 2, _ => ⟨rfl, by decide, rfl⟩
  | 3, _ => ⟨rfl, by decide, rfl⟩
  | 4, _ => ⟨rfl, by decide, rfl⟩
  | 5, _ => ⟨rfl, by decide, rfl⟩
  | k + 6, h => by omega
def restOf (S : ByteArray) (a : Nat) : Bs := S.data.toList.drop a
/-- What a reading answers: the rest, or that there is none. -/
def OneP (rp : Nat) (S : ByteArray) (w : World) (o : Option Bs) (e : Ending) (w' : World) : Prop := (∃ r, o = some r ∧ e = .returned (.bool true) ∧ Rdk rp S (S.size - r.length) w w') ∨ (o = none ∧ e = .returned (.bool false) ∧ w.grownBy w' (some rp))
def FunC (f : Nat) : Prop := ∀ (w : World) (rp : Nat) (S : ByteArray) (a : Nat), RdrAt w rp S a → a ≤ S.size → S.size ≤ 140737488351232 → S.size - a ≤ f →
  Calls Try.prog 110 #[.pointer (some ⟨rp, 0, none⟩), .nilFunc] w (OneP rp S w ((funM (oneM f) (restOf S a)).map (·.2)))
def OneC (f : Nat) : Prop := ∀ (w : World) (rp : Nat) (S : ByteArray) (a : Nat), RdrAt w rp S a → a ≤ S.size → S.size ≤ 140737488351232 → S.size - a < f →
  Calls Try.prog 105 #[.pointer (some ⟨rp, 0, none⟩)] w (OneP rp S w (oneM f (restOf S a)))
theorem OneP.yes {rp : Nat} {S : ByteArray} {w : World} {o : Option Bs} {r : Bs} {e : Ending} {w' : World} (h : OneP rp S w o e w') (ho : o = some r) : e = .returned (.bool true) ∧ Rdk rp S (S.size - r.length) w w' := by
  rcases h with ⟨r', h1, h2⟩ | ⟨h1, _⟩
  · rw [ho] at h1; cases h1; exact h2
  · rw [ho] at h1; cases h1
theorem OneP.no {rp : Nat} {S : ByteArray} {w : World} {o : Option Bs} {e : Ending} {w' : World} (h : OneP rp S w o e w') (ho : o = none) : e = .returned (.bool false) ∧ w.grownBy w' (some rp) := by
  rcases h with ⟨r', h1, h2⟩ | ⟨h1, h2⟩
  · rw [ho] at h1; cases h1
  · exact h2
theorem Rdk.trans {rp : Nat} {S : ByteArray} {a b : Nat} {w w1 w2 : World} (h : w.grownBy w1 (some rp)) (k : Rdk rp S b w1 w2) : Rdk rp S b w w2 := ⟨k.1, h.trans k.2⟩
theorem rest_pre {S K : ByteArray} {a : Nat} {r : Bs} (ha : a ≤ S.size) (h : pre K.data.toList (restOf S a) = some r) : S.size - r.length = a + K.size ∧ r = restOf S (a + K.size) ∧ a + K.size ≤ S.size := by
  obtain ⟨h1, h2⟩ := pre_fits ha h
  refine ⟨?_, h2, h1⟩
  rw [h2, List.length_drop, Array.length_toList]
  have : S.data.size = S.size := rfl
  omega
theorem wordF_cons (k : Bs) (ks : List Bs) (l : Bs) : wordF (k :: ks) l = (pre k l).or (wordF ks l) := rfl
set_option maxRecDepth 20000 in
set_option maxHeartbeats 1000000 in
theorem one_of (f : Nat) (hf : FunC f) : OneC (f + 1) := by
  intro w rp S a h ha hS hfu
  have HF := hid hf
  obtain ⟨l, hl⟩ : ∃ l, restOf S a = l := ⟨_, rfl⟩
  have HL := hid hl
  have H := hid h
  obtain ⟨o, ho⟩ : ∃ o, oneM (f + 1) l = o := ⟨_, rfl⟩
  have HO := hid ho
  rw [hl, ho]
  have hix : ∀ (k : Nat), k < 6 → ∀ w, Sem.run Try.prog (Instr.index 147 (.agg #[Value.string { data := #[105, 110, 116] }, Value.string { data := #[98, 111, 111, 108] }, Value.string { data := #[115, 116, 114, 105, 110, 103] }, Value.string { data := #[97, 110, 121] }, Value.string { data := #[91, 93, 105, 110, 116] }, Value.string { data := #[42, 105, 110, 116] }]) (.int .i64 (k : Int))) w = .ok (.string (wordB k)) w := fun k hk w =>
    run_index_arr Try.underlying147 (by kernel_rfl) rfl (by kernel_rfl) wordsV k hk _ (words_at k hk).1 w
  have HIX := hid hix
  clear hf hl h ho hix
  go_enter Try.func105, Try.ntmps105
  go_wp2
  go_loopw [6] (fun i wr => ∃ k : Nat, k ≤ 6 ∧ i = .int .i64 k ∧ Rdk rp S a w wr ∧ wordM l = wordF (tyWords.drop k) l) (fun i _ => 6 - (intOf i).toNat)
  case atStart => exact ⟨0, by omega, rfl, ⟨H.out, World.grownBy.refl _ _⟩, rfl⟩
  case round =>
    obtain ⟨k, hk, rfl, ⟨hr, hg⟩, hm⟩ := hrel
    have HR := hid hr; have HG := hid hg; have HM := hid hm
    clear hr hg hm
    by_cases hlt : k < 6
    · have hi := HIX.out k hlt
      obtain ⟨_, hws, hwd⟩ := words_at k hlt
      obtain ⟨W, hW⟩ : ∃ W, wordB k = W := ⟨_, rfl⟩
      rw [hW] at hi hws hwd
      have HWD := hid hwd; have HWS := hid hws
      have i1 : (k : Int) < 6 := by omega
      clear hwd hW hws
      cases hp : pre W.data.toList l with
      | none =>
        have HP : Hid (pre W.data.toList (restOf S a) = none) := hid (by rw [HL.out]; exact hp)
        have HM2 : Hid (wordM l = wordF (tyWords.drop (k + 1)) l) := hid (by rw [HM.out, HWD.out, wordF_cons, hp]; rfl)
        clear hp
        go_wp2_with (go_at_call 109; go_must (refine (has_no _ rp S W a HR.out ha hS HWS.out HP.out).mono ?_); rintro e w1 ⟨rfl, hr1, hg1⟩)
        go_roundw
        case rel => exact ⟨k + 1, by omega, by go_num, ⟨hr1, HG.out.trans hg1⟩, HM2.out⟩
        case measure => simp [intOf]; omega
      | some r =>
        have HP : Hid (pre W.data.toList (restOf S a) = some r) := hid (by rw [HL.out]; exact hp)
        have HM2 : Hid (o = some r) := hid (by
          rw [← HO.out]; show (wordM l).or _ = _
          rw [HM.out, HWD.out, wordF_cons, hp]; rfl)
        clear hp
        go_wp2_with (go_at_call 109; go_must (refine (has_yes _ rp S W a r HR.out ha hS HWS.out HP.out).mono ?_); rintro e w1 ⟨rfl, hr1, hg1⟩)
        go_ret
        exact .inl ⟨r, HM2.out, rfl, by rw [(rest_pre ha HP.out).1]; exact hr1, HG.out.trans hg1⟩
    · obtain rfl : k = 6 := by omega
      have HM2 : Hid (o = (funM (oneM f) (restOf S a)).map (·.2)) := hid (by
        rw [← HO.out, HL.out]; show (wordM l).or _ = _
        rw [HM.out]; rfl)
      cases hz : (funM (oneM f) (restOf S a)).map (·.2) with
      | none =>
        have HZ := hid hz
        rw [hz] at HM2
        clear hz
        go_wp2_with (go_at_call 110; go_must (refine ((HF.out _ rp S a HR.out ha hS (by omega)).mono fun _ _ h => h.no HZ.out).mono ?_); rintro e w1 ⟨rfl, hg1⟩)
        go_ret
        exact .inr ⟨HM2.out, rfl, HG.out.trans hg1⟩
      | some r =>
        have HZ := hid hz
        rw [hz] at HM2
        clear hz
        go_wp2_with (go_at_call 110; go_must (refine ((HF.out _ rp S a HR.out ha hS (by omega)).mono fun _ _ h => h.yes HZ.out).mono ?_); rintro e w1 ⟨rfl, hr1, hg1⟩)
        go_ret
        exact .inl ⟨r, HM2.out, rfl, hr1, HG.out.trans hg1⟩
def comB : ByteArray := ⟨#[44]⟩
def shutB : ByteArray := ⟨#[41]⟩
def funcB : ByteArray := ⟨#[102, 117, 110, 99, 40]⟩
/-- What is left to do of a function's text, behind n parameters. -/
def goOn (f n : Nat) (l : Bs) : Option (List Bs × Bs) := (argsM (oneM f) (4 - n) (n == 0) l).bind fun p => (resM (oneM f) p.2).map fun q => (p.1 ++ [q.1], q.2)
theorem goOn_shut {f n : Nat} {l r : Bs} (h : pre [41] l = some r) : goOn f n l = (resM (oneM f) r).map fun q => ([q.1], q.2) := by
  unfold goOn argsM; rw [h]; rfl
theorem goOn_full {f : Nat} {l : Bs} (h : pre [41] l = none) : goOn f 4 l = none := by
  unfold goOn argsM; rw [h]; rfl
theorem goOn_com {f n : Nat} {l : Bs} (h : pre [41] l = none) (h0 : 0 < n) (h4 : n < 4) (hc : pre [44] l = none) : goOn f n l = none := by
  unfold goOn argsM
  obtain ⟨m, hm⟩ : ∃ m, 4 - n = m + 1 := ⟨3 - n, by omega⟩
  have hb : (n == 0) = false := by simp; omega
  rw [h, hm, hb]; dsimp only
  rw [if_neg (by decide), hc]; rfl
theorem goOn_one {f n : Nat} {l l1 : Bs} (h : pre [41] l = none) (h4 : n < 4) (hc : (n = 0 ∧ l1 = l) ∨ (0 < n ∧ pre [44] l = some l1)) :
    goOn f n l = match oneM f l1 with | none => none | some r => (goOn f (n + 1) r).map fun q => (l1.take (l1.length - r.length) :: q.1, q.2) := by
  unfold goOn
  rw [argsM.eq_def]
  dsimp only
  obtain ⟨m, hm⟩ : ∃ m, 4 - n = m + 1 := ⟨3 - n, by omega⟩
  have hm2 : 4 - (n + 1) = m := by omega
  rw [h, hm, hm2]; dsimp only
  have e : (if (n == 0) = true then some l else pre [44] l) = some l1 := by
    rcases hc with ⟨rfl, rfl⟩ | ⟨h0, hc⟩
    · rfl
    · have hb : (n == 0) = false := by simp; omega
      rw [hb, if_neg (by decide), hc]
  rw [e]; dsimp only
  cases oneM f l1 with
  | none => rfl
  | some r =>
    dsimp only
    have hb : (n + 1 == 0) = false := by simp
    rw [hb]
    cases argsM (oneM f) m false r with
    | none => rfl
    | some p =>
      simp only [Option.map_some, Option.bind_some]
      cases resM (oneM f) p.2 <;> rfl
theorem funM_goOn {f : Nat} {l l1 : Bs} (h : pre bFunc l = some l1) : funM (oneM f) l = goOn f 0 l1 := by
  unfold funM goOn; rw [h]; rfl
theorem funM_no {one : Bs → Option Bs} {l : Bs} (h : pre bFunc l = none) : funM one l = none := by unfold funM; rw [h]; rfl
theorem rest_len {S : ByteArray} {a : Nat} (ha : a ≤ S.size) : (restOf S a).length = S.size - a := by
  unfold restOf; rw [List.length_drop, Array.length_toList]; rfl
/-- Where the reader stands behind a reading. -/
theorem rest_one {f : Nat} {S : ByteArray} {a : Nat} {r : Bs} (ha : a ≤ S.size) (h : oneM f (restOf S a) = some r) : a < S.size - r.length ∧ S.size - r.length ≤ S.size ∧ restOf S (S.size - r.length) = r := by
  obtain ⟨p, hp, e⟩ := oneM_ends _ _ _ h
  have hl := rest_len ha
  rw [e, List.length_append] at hl
  have : 0 < p.length := by cases p with | nil => exact absurd rfl hp | cons _ _ => simp
  refine ⟨by omega, by omega, ?_⟩
  unfold restOf at e ⊢
  have : S.size - r.length = a + p.length := by omega
  rw [this, ← List.drop_drop, e, List.drop_left]
/-- Does a result stand at c? -/
def resAt (S : ByteArray) (c : Nat) : Bool := resB (restOf S c)
theorem resM_no {one : Bs → Option Bs} {l : Bs} (h : resB l = false) : resM one l = some ([], l) := by unfold resM; rw [if_neg (by rw [h]; decide)]
theorem resM_yes {one : Bs → Option Bs} {l : Bs} (h : resB l = true) : resM one l = (one l).map fun r => (l.take (l.length - r.length), r) := by unfold resM; rw [if_pos h]
theorem rest_cons {S : ByteArray} {c : Nat} (h : c < S.size) : restOf S c = S[c] :: restOf S (c + 1) := by
  unfold restOf; rw [List.drop_eq_getElem_cons (by rw [Array.length_toList]; exact h)]; rfl
theorem rest_nil {S : ByteArray} {c : Nat} (h : S.size ≤ c) : restOf S c = [] := List.drop_eq_nil_of_le (by rw [Array.length_toList]; exact h)
theorem byte_beq (x : UInt8) (n : Nat) (hn : n < 256) : ((x.toNat : Int) == n) = (x == UInt8.ofNat n) := by
  by_cases h : x = UInt8.ofNat n
  · subst h; rw [beq_self_eq_true, beq_iff_eq]; rw [UInt8.toNat_ofNat']; omega
  · rw [beq_eq_false_iff_ne.2 h, beq_eq_false_iff_ne]
    intro h2; apply h; apply UInt8.toNat_inj.1; rw [UInt8.toNat_ofNat']; omega
/-- The ways of the test whether a result stands at c. -/
theorem res_cases (S : ByteArray) (c : Nat) : (S.size ≤ c ∧ resB (restOf S c) = false) ∨ (∃ h : c < S.size, (S[c]'h = 44 ∨ S[c]'h = 41) ∧ resB (restOf S c) = false) ∨ (∃ h : c < S.size, S[c]'h ≠ 44 ∧ S[c]'h ≠ 41 ∧ resB (restOf S c) = true) := by
  rcases Nat.lt_or_ge c S.size with h | h
  · by_cases h1 : S[c] = 44
    · exact .inr (.inl ⟨h, .inl h1, by rw [rest_cons h, h1]; rfl⟩)
    · by_cases h2 : S[c] = 41
      · exact .inr (.inl ⟨h, .inr h2, by rw [rest_cons h, h2]; rfl⟩)
      · refine .inr (.inr ⟨h, h1, h2, ?_⟩)
        rw [rest_cons h]
        show (!(S[c] == 44 || S[c] == 41)) = true
        rw [beq_eq_false_iff_ne.2 h1, beq_eq_false_iff_ne.2 h2]; rfl
  · exact .inl ⟨h, by rw [rest_nil h]; rfl⟩
set_option maxRecDepth 20000 in
set_option maxHeartbeats 4000000 in
theorem fun_of (f : Nat) (hf : OneC f) : FunC f := by
  intro w rp S a h ha hS hfu
  have NN := nil_nil
  have HF := hid hf
  obtain ⟨o, ho⟩ : ∃ o, (funM (oneM f) (restOf S a)).map (·.2) = o := ⟨_, rfl⟩
  have HO := hid ho
  have H := hid h
  rw [ho]
  clear hf ho h
  cases hp : pre bFunc (restOf S a) with
  | none =>
    have HP : Hid (pre funcB.data.toList (restOf S a) = none) := hid hp
    have HV : Hid (o = none) := hid (by rw [← HO.out, funM_no hp]; rfl)
    clear hp
    go_enter Try.func110, Try.ntmps110
    go_wp2_with (go_at_call 109; go_must (refine (has_no _ rp S funcB a H.out ha hS (by decide) HP.out).mono ?_); rintro e w1 ⟨rfl, hr1, hg1⟩)
    go_ret
    exact .inr ⟨HV.out, rfl, hg1⟩
  | some l1 =>
    have HP : Hid (pre funcB.data.toList (restOf S a) = some l1) := hid hp
    obtain ⟨_, hl1, hle1⟩ := rest_pre (K := funcB) ha hp
    have HG0 : Hid (o = (goOn f 0 (restOf S (a + funcB.size))).map (·.2)) := hid (by rw [← HO.out, funM_goOn hp, hl1])
    have HLE : Hid (a + funcB.size ≤ S.size ∧ S.size - (a + funcB.size) < f) := hid ⟨hle1, by have : funcB.size = 5 := rfl; omega⟩
    clear hp hl1 hle1
    go_enter Try.func110, Try.ntmps110
    go_wp2_with (go_at_call 109; go_must (refine (has_yes _ rp S funcB a l1 H.out ha hS (by decide) HP.out).mono ?_); rintro e w1 ⟨rfl, hr1, hg1⟩)
    go_loopw [5] (fun i wr => ∃ n b : Nat, n ≤ 4 ∧ i = .int .i64 n ∧ RdrAt wr rp S b ∧ w.grownBy wr (some rp) ∧ (b ≤ S.size ∧ S.size - b < f) ∧ o = (goOn f n (restOf S b)).map (·.2)) (fun i _ => 5 - (intOf i).toNat)
    case atStart => exact ⟨0, _, by omega, rfl, hr1, hg1, HLE.out, HG0.out⟩
    case round =>
      obtain ⟨n, b, hn, rfl, hr, hg, ⟨hb, hbf⟩, hm⟩ := hrel
      have HR := hid hr; have HG := hid hg; have HM := hid hm
      clear hr hg hm
      cases hs : pre [41] (restOf S b) with
      | some l2 =>
        have HS : Hid (pre shutB.data.toList (restOf S b) = some l2) := hid hs
        obtain ⟨_, hl2, hle2⟩ := rest_pre (K := shutB) hb hs
        have hO := HM.out
        rw [goOn_shut hs, hl2] at hO
        obtain ⟨c, hc⟩ : ∃ c, b + shutB.size = c := ⟨_, rfl⟩
        have HC := hid hc
        rw [hc] at hO hle2
        have hcb : b < c := by have : shutB.size = 1 := rfl; omega
        have hrl := rest_len hle2
        clear hs hl2 hc
        rcases res_cases S c with ⟨hge, hres⟩ | ⟨hlt, hx, hres⟩ | ⟨hlt, hx1, hx2, hres⟩
        · have HV : Hid (o = some (restOf S c)) := hid (by rw [hO, resM_no hres]; rfl)
          have HL : Hid (S.size - (restOf S c).length = c) := hid (by omega)
          have i2 : decide (c < S.size) = false := decide_eq_false (by omega)
          clear hO hres hrl
          go_wp2_with fail
          refine (has_to _ rp S shutB b c l2 HR.out hb hS (by decide) HS.out HC.out).mono ?_
          rintro e w2 ⟨rfl, hr2, hg2⟩
          have HR2 := hid hr2
          have c0 := hr2.c0; have c1 := hr2.c1
          clear hr2
          go_wp2_with fail
          go_quiet (fail)
          go_wp2
          go_ret
          exact .inl ⟨_, HV.out, rfl, by rw [HL.out]; exact HR2.out, (HG.out.trans hg2).trans (grown_drewN _ _ _)⟩
        · have HV : Hid (o = some (restOf S c)) := hid (by rw [hO, resM_no hres]; rfl)
          have HL : Hid (S.size - (restOf S c).length = c) := hid (by omega)
          have i2 : decide (c < S.size) = true := decide_eq_true (by omega)
          have i3 : (c : Int) < (S.size : Int) := by omega
          have i4 : (0 : Int) ≤ (c : Int) := by omega
          obtain ⟨x, hX⟩ : ∃ x, S[c] = x := ⟨_, rfl⟩
          rw [hX] at hx
          have b1 := byte_beq x 44 (by decide)
          have b2 := byte_beq x 41 (by decide)
          clear hO hres hrl
          rcases hx with rfl | rfl
          all_goals
            go_wp2_with fail
            refine (has_to _ rp S shutB b c l2 HR.out hb hS (by decide) HS.out HC.out).mono ?_
            rintro e w2 ⟨rfl, hr2, hg2⟩
            have HR2 := hid hr2
            have c0 := hr2.c0; have c1 := hr2.c1
            clear hr2
            go_wp2_with fail
            go_quiet (fail)
            go_wp2
            go_ret
            exact .inl ⟨_, HV.out, rfl, by rw [HL.out]; exact HR2.out, (HG.out.trans hg2).trans (grown_drewN _ _ _)⟩
        · have i2 : decide (c < S.size) = true := decide_eq_true (by omega)
          have i3 : (c : Int) < (S.size : Int) := by omega
          have i4 : (0 : Int) ≤ (c : Int) := by omega
          obtain ⟨x, hX⟩ : ∃ x, S[c] = x := ⟨_, rfl⟩
          rw [hX] at hx1 hx2
          have b1 : ((x.toNat : Int) == 44) = false := (byte_beq x 44 (by decide)).trans (beq_eq_false_iff_ne.2 hx1)
          have b2 : ((x.toNat : Int) == 41) = false := (byte_beq x 41 (by decide)).trans (beq_eq_false_iff_ne.2 hx2)
          have b3 : ((x.toNat : Int) != 44) = true := by rw [bne, b1]; rfl
          have b4 : ((x.toNat : Int) != 41) = true := by rw [bne, b2]; rfl
          rw [resM_yes hres, Option.map_map, Option.map_map] at hO
          clear hres hx1 hx2 hrl
          cases hz : oneM f (restOf S c) with
          | none =>
            have HZ := hid hz
            have HV : Hid (o = none) := hid (by rw [hO, hz]; rfl)
            clear hz hO
            go_wp2_with fail
            refine (has_to _ rp S shutB b c l2 HR.out hb hS (by decide) HS.out HC.out).mono ?_
            rintro e w2 ⟨rfl, hr2, hg2⟩
            have HR2 := hid hr2
            have c0 := hr2.c0; have c1 := hr2.c1
            clear hr2
            go_wp2_with fail
            go_still_tail 36, (by kernel_rfl)
            change wpList _ _ _ _ _ w2.drew
            have HR3 : Hid (RdrAt w2.drew rp S c) := HR2
            have HG3 : Hid (w.grownBy w2.drew (some rp)) := hid ((HG.out.trans hg2).trans (grown_drew _ _))
            generalize w2.drew = w3 at *
            go_wp2_with (go_at_call 105; go_must (refine ((HF.out _ rp S c HR3.out hle2 hS (by omega)).mono fun _ _ h => h.no HZ.out).mono ?_); rintro e w4 ⟨rfl, hg4⟩)
            go_ret
            exact .inr ⟨HV.out, rfl, HG3.out.trans hg4⟩
          | some r =>
            have HZ := hid hz
            have HV : Hid (o = some r) := hid (by rw [hO, hz]; rfl)
            clear hz hO
            go_wp2_with fail
            refine (has_to _ rp S shutB b c l2 HR.out hb hS (by decide) HS.out HC.out).mono ?_
            rintro e w2 ⟨rfl, hr2, hg2⟩
            have HR2 := hid hr2
            have c0 := hr2.c0; have c1 := hr2.c1
            clear hr2
            go_wp2_with fail
            go_still_tail 36, (by kernel_rfl)
            change wpList _ _ _ _ _ w2.drew
            have HR3 : Hid (RdrAt w2.drew rp S c) := HR2
            have HG3 : Hid (w.grownBy w2.drew (some rp)) := hid ((HG.out.trans hg2).trans (grown_drew _ _))
            generalize w2.drew = w3 at *
            go_wp2_with (go_at_call 105; go_must (refine ((HF.out _ rp S c HR3.out hle2 hS (by omega)).mono fun _ _ h => h.yes HZ.out).mono ?_); rintro e w4 ⟨rfl, hr4, hg4⟩)
            go_ret
            exact .inl ⟨_, HV.out, rfl, hr4, HG3.out.trans hg4⟩
      | none =>
        have HS : Hid (pre shutB.data.toList (restOf S b) = none) := hid hs
        by_cases h4 : n = 4
        · have HV : Hid (o = none) := hid (by rw [HM.out, h4, goOn_full hs]; rfl)
          subst h4
          clear hs
          go_wp2_with (go_at_call 109; go_must (refine (has_no _ rp S shutB b HR.out hb hS (by decide) HS.out).mono ?_); rintro e w2 ⟨rfl, hr2, hg2⟩)
          go_ret
          exact .inr ⟨HV.out, rfl, HG.out.trans hg2⟩
        · have key : (0 < n ∧ pre [44] (restOf S b) = none) ∨ ∃ c, c ≤ S.size ∧ b ≤ c ∧ ((n = 0 ∧ c = b) ∨ (0 < n ∧ pre [44] (restOf S b) = some (restOf S c))) := by
            by_cases h0 : n = 0
            · exact .inr ⟨b, hb, Nat.le_refl _, .inl ⟨h0, rfl⟩⟩
            · cases hc : pre [44] (restOf S b) with
              | none => exact .inl ⟨by omega, rfl⟩
              | some l3 =>
                obtain ⟨_, h1, h2⟩ := rest_pre (K := comB) hb hc
                exact .inr ⟨b + 1, h2, by omega, .inr ⟨by omega, by rw [h1]; rfl⟩⟩
          rcases key with ⟨h0, hc⟩ | ⟨c, hcS, hbc, hcc⟩
          · have HV : Hid (o = none) := hid (by rw [HM.out, goOn_com hs h0 (by omega) hc]; rfl)
            have HC : Hid (pre comB.data.toList (restOf S b) = none) := hid hc
            have e4 : ((n : Int) == 4) = false := by simp; omega
            have e0 : decide ((0 : Int) < (n : Int)) = true := by rw [decide_eq_true_eq]; omega
            clear hs hc
            go_wp2_with fail
            refine (has_no _ rp S shutB b HR.out hb hS (by decide) HS.out).mono ?_
            rintro e w2 ⟨rfl, hr2, hg2⟩
            have HR2 := hid hr2
            go_wp2_with fail
            refine (has_no _ rp S comB b HR2.out hb hS (by decide) HC.out).mono ?_
            rintro e w3 ⟨rfl, hr3, hg3⟩
            go_wp2_with fail
            go_ret
            exact .inr ⟨HV.out, rfl, (HG.out.trans hg2).trans hg3⟩
          · have hO := HM.out
            rw [goOn_one (l1 := restOf S c) hs (by omega) (hcc.imp (fun h => ⟨h.1, by rw [h.2]⟩) id)] at hO
            have hcf : S.size - c < f := by omega
            have e4 : ((n : Int) == 4) = false := by simp; omega
            cases hz : oneM f (restOf S c) with
            | none =>
              have HZ := hid hz
              have HV : Hid (o = none) := hid (by rw [hO, hz]; rfl)
              clear hz hO hs
              rcases hcc with ⟨rfl, rfl⟩ | ⟨h0, hc⟩
              · go_wp2_with fail
                refine (has_no _ rp S shutB c HR.out hb hS (by decide) HS.out).mono ?_
                rintro e w2 ⟨rfl, hr2, hg2⟩
                have c0 := hr2.c0; have c1 := hr2.c1
                have HR2 := hid hr2
                clear hr2
                go_wp2_with (go_at_call 105; go_must (refine ((HF.out _ rp S c HR2.out hcS hS hcf).mono fun _ _ h => h.no HZ.out).mono ?_); rintro e w4 ⟨rfl, hg4⟩)
                go_ret
                exact .inr ⟨HV.out, rfl, (HG.out.trans hg2).trans hg4⟩
              · have e0 : decide ((0 : Int) < (n : Int)) = true := by rw [decide_eq_true_eq]; omega
                have HC : Hid (pre comB.data.toList (restOf S b) = some (restOf S c)) := hid hc
                obtain ⟨g1, g2, _⟩ := rest_pre (K := comB) hb hc
                have HCC : Hid (b + comB.size = c) := hid (by have := rest_len hcS; omega)
                clear hc g1 g2
                go_wp2_with fail
                refine (has_no _ rp S shutB b HR.out hb hS (by decide) HS.out).mono ?_
                rintro e w2 ⟨rfl, hr2, hg2⟩
                have HR2 := hid hr2
                clear hr2
                go_wp2_with fail
                refine (has_to _ rp S comB b c _ HR2.out hb hS (by decide) HC.out HCC.out).mono ?_
                rintro e w3 ⟨rfl, hr3, hg3⟩
                have c0 := hr3.c0; have c1 := hr3.c1
                have HR3 := hid hr3
                clear hr3
                go_wp2_with (go_at_call 105; go_must (refine ((HF.out _ rp S c HR3.out hcS hS hcf).mono fun _ _ h => h.no HZ.out).mono ?_); rintro e w4 ⟨rfl, hg4⟩)
                go_ret
                exact .inr ⟨HV.out, rfl, ((HG.out.trans hg2).trans hg3).trans hg4⟩
            | some r =>
              have HZ := hid hz
              obtain ⟨g1, g2, g3⟩ := rest_one hcS hz
              have HD : Hid (S.size - r.length ≤ S.size ∧ S.size - (S.size - r.length) < f) := hid ⟨g2, by omega⟩
              have HV : Hid (o = (goOn f (n + 1) (restOf S (S.size - r.length))).map (·.2)) := hid (by
                rw [hO, hz, g3]; dsimp only; rw [Option.map_map]; rfl)
              clear hz hO hs g1 g2 g3
              rcases hcc with ⟨rfl, rfl⟩ | ⟨h0, hc⟩
              · go_wp2_with fail
                refine (has_no _ rp S shutB c HR.out hb hS (by decide) HS.out).mono ?_
                rintro e w2 ⟨rfl, hr2, hg2⟩
                have c0 := hr2.c0; have c1 := hr2.c1
                have HR2 := hid hr2
                clear hr2
                go_wp2_with (go_at_call 105; go_must (refine ((HF.out _ rp S c HR2.out hcS hS hcf).mono fun _ _ h => h.yes HZ.out).mono ?_); rintro e w4 ⟨rfl, hr4, hg4⟩)
                go_roundw
                case rel => exact ⟨1, S.size - r.length, by omega, by go_num, hr4, (HG.out.trans hg2).trans hg4, HD.out, HV.out⟩
                case measure => simp [intOf]
              · have e0 : decide ((0 : Int) < (n : Int)) = true := by rw [decide_eq_true_eq]; omega
                have HC : Hid (pre comB.data.toList (restOf S b) = some (restOf S c)) := hid hc
                obtain ⟨g1, g2, _⟩ := rest_pre (K := comB) hb hc
                have HCC : Hid (b + comB.size = c) := hid (by have := rest_len hcS; omega)
                clear hc g1 g2
                go_wp2_with fail
                refine (has_no _ rp S shutB b HR.out hb hS (by decide) HS.out).mono ?_
                rintro e w2 ⟨rfl, hr2, hg2⟩
                have HR2 := hid hr2
                clear hr2
                go_wp2_with fail
                refine (has_to _ rp S comB b c _ HR2.out hb hS (by decide) HC.out HCC.out).mono ?_
                rintro e w3 ⟨rfl, hr3, hg3⟩
                have c0 := hr3.c0; have c1 := hr3.c1
                have HR3 := hid hr3
                clear hr3
                go_wp2_with (go_at_call 105; go_must (refine ((HF.out _ rp S c HR3.out hcS hS hcf).mono fun _ _ h => h.yes HZ.out).mono ?_); rintro e w4 ⟨rfl, hr4, hg4⟩)
                go_roundw
                case rel => exact ⟨n + 1, S.size - r.length, by omega, by go_num, hr4, ((HG.out.trans hg2).trans hg3).trans hg4, HD.out, HV.out⟩
                case measure => simp [intOf]; omega
theorem fun_one : ∀ f, FunC f ∧ OneC f
  | 0 => ⟨fun_of 0 (fun w rp S a _ _ _ h => absurd h (Nat.not_lt_zero _)), fun w rp S a _ _ _ h => absurd h (Nat.not_lt_zero _)⟩
  | f + 1 => by
    have h := one_of f (fun_one f).1
    exact ⟨fun_of (f + 1) h, h⟩
end Go.Proofs.Ytgonekmmbeedeaa.Ty
