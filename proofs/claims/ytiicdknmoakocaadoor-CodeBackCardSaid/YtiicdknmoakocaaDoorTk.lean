/-
Which number a text is; the numbers of a line: the plain laws. No condition.
Package code: numbers. Condition: the text is short; a global number of the library is there.
Package code: what a line adds: the plain model. No condition.
Package code: the code that Read puts together, in memory. No condition.
Package code: a line of a text. Condition: the line is short, the code is within the reach.
-/
import Derived.Test.YtiicdknmoakocaaDoorRead
import Derived.Test.YtiicdknmoakocaaDoorTx
import Derived.Test.YtiicdknmoakocaaDoorShelf
import Derived.Lib.SplitLaws
import Derived.Test.YtiicdknmoakocaaDoorBlk
import Derived.Test.YtiicdknmoakocaaDoorInts
import Derived.Test.YtiicdknmoakocaaDoorOwnL
import Derived.Test.YtiicdknmoakocaaDoorCut
import Derived.Test.YtiicdknmoakocaaDoorUnquoteP
import Derived.Test.YtiicdknmoakocaaDoorShw
import Derived.Test.YtiicdknmoakocaaDoorOCode
import Derived.Test.YtiicdknmoakocaaDoorApp
namespace Go.Proofs.YtiicdknmoakocaaDoor
open Go.RowKit
set_option linter.unusedVariables false
set_option linter.unusedSimpArgs false

theorem dec_inj {u v : Nat} (hu : u < 10 ^ 19) (hv : v < 10 ^ 19) (h : Lib.decDigits u = Lib.decDigits v) : u = v := by
  have h1 := rdVal_dec 18 u hu
  have h2 := rdVal_dec 18 v hv
  rw [h, h2] at h1
  omega
theorem dec_head (u : Nat) (hu : u < 10 ^ 20) : ∃ c r, Lib.decDigits u = c :: r ∧ 48 ≤ c.toNat ∧ c.toNat ≤ 57 := by
  cases h : Lib.decDigits u with
  | nil => have := dec_pos u; rw [h] at this; simp at this
  | cons c r => exact ⟨c, r, rfl, dec_digit 19 u hu c (by rw [h]; exact List.mem_cons_self ..)⟩
theorem itoa_inj {u v : Int} (hu : okI u) (hv : okI v) (h : Lib.itoa u = Lib.itoa v) : u = v := by
  unfold okI at hu hv
  unfold Lib.itoa at h
  split at h <;> split at h
  · injection h with _ h
    have := dec_inj (by omega) (by omega) h
    omega
  · obtain ⟨c, r, e, h1, _⟩ := dec_head v.toNat (by omega)
    rw [e] at h
    injection h with h _
    subst h
    exact absurd h1 (by decide)
  · obtain ⟨c, r, e, h1, _⟩ := dec_head u.toNat (by omega)
    rw [e] at h
    injection h with h _
    subst h
    exact absurd h1 (by decide)
  · have := dec_inj (by omega) (by omega) h
    omega
/-- The number that a text is. -/
noncomputable def readO (l : List UInt8) : Option Int := by
  classical exact if h : ∃ v, okI v ∧ Lib.itoa v = l then some (Classical.choose h) else none
theorem readO_itoa (v : Int) (h : okI v) : readO (Lib.itoa v) = some v := by
  unfold readO
  have hx : ∃ u, okI u ∧ Lib.itoa u = Lib.itoa v := ⟨v, h, rfl⟩
  rw [dif_pos hx]
  have := Classical.choose_spec hx
  exact congrArg some (itoa_inj this.1 h this.2)
theorem readO_some {l : List UInt8} {v : Int} (h : readO l = some v) : okI v ∧ Lib.itoa v = l := by
  unfold readO at h
  split at h
  · rename_i hx
    injection h with h
    subst h
    exact Classical.choose_spec hx
  · cases h
theorem readO_none {l : List UInt8} (h : readO l = none) : ∀ v, okI v → Lib.itoa v ≠ l := by
  intro v hv he
  subst he
  rw [readO_itoa v hv] at h; cases h
theorem read_o (s : ByteArray) (w : World) (hm : s.size ≤ 4294967281) : Calls Tryd.prog 42 #[.string s] w fun e w' => e = .returned (.tuple #[.int .i64 ((readO s.data.toList).getD 0), .int .i64 (if (readO s.data.toList).isSome then 0 else 3)]) ∧ Kp w w' := by
  cases h : readO s.data.toList with
  | some v =>
    obtain ⟨hv, e⟩ := readO_some h
    have es : s = ⟨(Lib.itoa v).toArray⟩ := by rw [e]
    rw [es]
    exact read_hit v w hv
  | none =>
    refine read_miss s w (fun n h1 => ?_) (by unfold maxLen; omega)
    rw [beq_eq_false_iff_ne, ByteArray.toList_eq]
    exact readO_none h n h1
/-! ### the numbers of a line -/
noncomputable def numsL : List ByteArray → Option (List Int)
  | [] => some []
  | x :: r => match readO x.data.toList with | none => none | some v => (numsL r).map (v :: ·)
def pieces (s : ByteArray) : List ByteArray := Lib.splitB ⟨#[32]⟩ 0 (Lib.countB s ⟨#[32]⟩) s
noncomputable def numsM (n : Nat) (s : ByteArray) : Option (List Int) := match pieces s with
  | [] => none
  | x :: r => if r.length = n ∧ x.data.toList = [] then numsL r else none
theorem numsL_ok : ∀ (r : List ByteArray) (l : List Int), numsL r = some l → l.length = r.length ∧ ∀ x ∈ l, okI x
  | [], l, h => by rw [numsL] at h; cases h; exact ⟨rfl, fun x hx => by cases hx⟩
  | y :: r, l, h => by
    rw [numsL] at h
    split at h
    · cases h
    · rename_i v hv
      obtain ⟨l2, h2, rfl⟩ := Option.map_eq_some_iff.1 h
      obtain ⟨h3, h4⟩ := numsL_ok r l2 h2
      refine ⟨by simp [h3], fun x hx => ?_⟩
      rcases List.mem_cons.1 hx with rfl | hx
      · exact (readO_some hv).1
      · exact h4 x hx
theorem numsM_ok {n : Nat} {s : ByteArray} {l : List Int} (h : numsM n s = some l) : l.length = n ∧ ∀ x ∈ l, okI x := by
  unfold numsM at h
  split at h
  · cases h
  · split at h
    · rename_i h1
      obtain ⟨h2, h3⟩ := numsL_ok _ _ h
      exact ⟨h2.trans h1.1, h3⟩
    · cases h
theorem split_le (sep : ByteArray) (save : Nat) : ∀ (k : Nat) (s : ByteArray), save = 0 → ∀ x ∈ Lib.splitB sep save k s, x.size ≤ s.size
  | 0, s, _, x, hx => by rw [Lib.splitB_zero, List.mem_singleton] at hx; subst hx; exact Nat.le_refl _
  | k + 1, s, h0, x, hx => by
    have hz : s.data.toList.length = s.size := by rw [Array.length_toList]; rfl
    unfold Lib.splitB at hx
    split at hx
    · rw [List.mem_singleton] at hx; subst hx; exact Nat.le_refl _
    · rcases List.mem_cons.1 hx with rfl | hx
      · rw [Lib.extract_eq]
        show (List.toArray _).size ≤ _
        rw [List.size_toArray, List.length_take, List.length_drop, hz]; omega
      · have h := split_le sep save k _ h0 x hx
        refine Nat.le_trans h ?_
        rw [Lib.extract_eq]
        show (List.toArray _).size ≤ _
        rw [List.size_toArray, List.length_take, List.length_drop, hz]; omega
/-- The loop's law: k texts are read. -/
def NsI (r : List ByteArray) (k : Nat) (acc : List Int) : Prop := numsL r = (numsL (r.drop k)).map (acc ++ ·) ∧ acc.length = k ∧ ∀ x ∈ acc, okI x
theorem NsI.start (r : List ByteArray) : NsI r 0 [] := ⟨by simp, rfl, fun x hx => by cases hx⟩
theorem NsI.miss {r : List ByteArray} {k : Nat} {acc : List Int} {x : ByteArray} (h : NsI r k acc) (hx : r[k]? = some x) (hr : readO x.data.toList = none) : numsL r = none := by
  obtain ⟨hk, hx⟩ := List.getElem?_eq_some_iff.1 hx
  rw [h.1, List.drop_eq_getElem_cons hk, numsL, hx, hr]; rfl
theorem NsI.step {r : List ByteArray} {k : Nat} {acc : List Int} {x : ByteArray} {v : Int} (h : NsI r k acc) (hx : r[k]? = some x) (hr : readO x.data.toList = some v) : NsI r (k + 1) (acc ++ [v]) := by
  obtain ⟨hk, hx⟩ := List.getElem?_eq_some_iff.1 hx
  refine ⟨?_, by rw [List.length_append, h.2.1]; rfl, fun y hy => ?_⟩
  · rw [h.1, List.drop_eq_getElem_cons hk, numsL, hx, hr]
    simp only [Option.map_map]
    congr 1
    funext l
    simp
  · rcases List.mem_append.1 hy with hy | hy
    · exact h.2.2 y hy
    · rw [List.mem_singleton] at hy; subst hy; exact (readO_some hr).1
theorem NsI.fin {r : List ByteArray} {acc : List Int} (h : NsI r r.length acc) : numsL r = some acc := by
  rw [h.1, List.drop_length, numsL]; simp
end Go.Proofs.YtiicdknmoakocaaDoor
namespace Go.Proofs.YtiicdknmoakocaaDoor
open Go.RowKit
set_option linter.unusedVariables false
set_option linter.unusedSimpArgs false

def NsPost (n : Nat) (s : ByteArray) (w : World) (e : Ending) (w' : World) : Prop := (∃ A k c, e = .returned (.tuple #[.slice A k c, .bool (numsM n s).isSome]) ∧ ∀ l, numsM n s = some l → OwnI w' w.heap.size (.slice A k c) l) ∧ Kp w w'
theorem ns_fail {n : Nat} {s : ByteArray} {w w' : World} (h : numsM n s = none) (hk : Kp w w') : NsPost n s w (.returned (.tuple #[.slice none 0 0, .bool false])) w' :=
  ⟨⟨none, 0, 0, by rw [h]; rfl, fun l hl => by rw [hl] at h; cases h⟩, hk⟩
theorem ns_own_len {w : World} {b c k : Nat} {A : Option Addr} {acc : List Int} (hk : acc.length = k) (h : OwnI w b (.slice A acc.length c) acc) : OwnI w b (.slice A k c) acc := by
  subst hk; exact h
theorem ns_own_len2 {w : World} {b c k : Nat} {A : Option Addr} {acc : List Int} (hk : acc.length = k) (h : OwnI w b (.slice A k c) acc) : OwnI w b (.slice A acc.length c) acc := by
  subst hk; exact h
theorem ns_snoc {w' : World} {base k : Nat} {v' : Value} {acc : List Int} {v : Int} (hk : acc.length = k) (h : w'.ownsRow base 3 1 v' (k + 1) (acc.map intV ++ (#[Value.int .i64 v] : Array Value).toList)) : OwnI w' base v' (acc ++ [v]) := by
  subst hk
  unfold OwnI
  rw [List.length_append, List.map_append]
  exact h
theorem ns_round {r : List ByteArray} {w1 u : World} {k : Nat} {A : Option Addr} {c : Nat} {acc : List Int} (hlt : k < r.length) (hn : NsI r (k + 1) acc) (ho : OwnI u w1.heap.size (.slice A (k + 1) c) acc) (hk : Kp w1 u) :
    (∃ (k' : Nat) (A' : Option Addr) (c' : Nat) (acc' : List Int), k' ≤ r.length ∧ Value.int .i64 ((k : Int) + 1) = .int .i64 (k' : Int) ∧ Value.slice A (k + 1) c = .slice A' k' c' ∧ NsI r k' acc' ∧ OwnI u w1.heap.size (.slice A' k' c') acc' ∧ Kp w1 u) ∧ r.length - (intOf (.int .i64 ((k : Int) + 1))).toNat < r.length - (intOf (.int .i64 (k : Int))).toNat :=
  ⟨⟨k + 1, A, c, acc, hlt, by congr 1, rfl, hn, ho, hk⟩, by simp only [intOf]; omega⟩
set_option maxRecDepth 20000 in
set_option maxHeartbeats 8000000 in
theorem cnums_any (s : ByteArray) (n : Int) (N : Nat) (hN : n = N) (hn1 : 1 ≤ N) (hn5 : N ≤ 5) (hs : s.size < 4294967281) (m : Int) (w : World) (hm : w.cell? ⟨0, 0, none⟩ = some (.int .i64 m)) :
    Calls Tryd.prog 40 #[.string s, .int .i64 n] w (NsPost N s w) := by
  have hcl : (pieces s).length = Lib.countB s ⟨#[32]⟩ + 1 := Lib.splitB_all ⟨#[32]⟩ (by decide) 0 _ s rfl
  have hcb : Lib.countB s ⟨#[32]⟩ ≤ s.size := Lib.countB_le ⟨#[32]⟩ (by decide) s.size s (Nat.le_refl _)
  have HSP := hid (Tryd.strings_Split s ⟨#[32]⟩ m w hs hm (by decide))
  have HEQ : Hid (numsM N s = match pieces s with | [] => none | x :: r => if r.length = N ∧ x.data.toList = [] then numsL r else none) := hid rfl
  have hle : ∀ x ∈ pieces s, x.size ≤ s.size := split_le _ 0 _ s rfl
  rw [show Lib.splitB ⟨#[32]⟩ 0 (Lib.countB s ⟨#[32]⟩) s = pieces s from rfl] at HSP
  generalize pieces s = P at hcl HSP HEQ hle
  cases P with
  | nil => cases hcl
  | cons x0 r =>
  rw [List.length_cons] at hcl
  have hrl : r.length = Lib.countB s ⟨#[32]⟩ := by omega
  rw [← hrl] at HSP hcb
  rw [List.map_cons] at HSP
  have HLE := hid hle
  have HCB := hid hcb
  have HSZ := hid hs
  have HC0 := hid (show (w.alloc (.cells (Value.string x0 :: r.map Value.string).toArray 9)).cell? ⟨w.heap.size, 0, none⟩ = some (.string x0) from by
    have hb := blk_new w (.cells (Value.string x0 :: r.map Value.string).toArray 9)
    exact blk_cell hb rfl)
  have HC := hid (show ∀ j x, r[j]? = some x → (w.alloc (.cells (Value.string x0 :: r.map Value.string).toArray 9)).cell? ⟨w.heap.size, j + 1, none⟩ = some (.string x) from fun j x h => by
    have hb := blk_new w (.cells (Value.string x0 :: r.map Value.string).toArray 9)
    refine blk_cell hb ?_
    rw [List.getElem?_toArray, List.getElem?_cons_succ, List.getElem?_map, h]; rfl)
  have HKA := hid (show Kp w (w.alloc (.cells (Value.string x0 :: r.map Value.string).toArray 9)) from (Kp.refl w).alloc _)
  have HLA := hid (show w.heap.size < (w.alloc (.cells (Value.string x0 :: r.map Value.string).toArray 9)).heap.size by simp)
  clear hcl hm hs hle hcb hrl
  have kn : IntKind.i64.wrap (n + 1) = n + 1 := by rw [IntKind.wrap_i64]; omega
  have hcase : (r.length = N ∧ ((r.length : Int) + 1 != n + 1) = false) ∨ (r.length ≠ N ∧ ((r.length : Int) + 1 != n + 1) = true) := by
    by_cases h : r.length = N
    · exact .inl ⟨h, by rw [bne, show ((r.length : Int) + 1 == n + 1) = true by rw [beq_iff_eq]; omega]; rfl⟩
    · exact .inr ⟨h, by rw [bne, show ((r.length : Int) + 1 == n + 1) = false by rw [beq_eq_false_iff_ne]; omega]; rfl⟩
  rcases hcase with ⟨hrn, t1⟩ | ⟨hrn, t1⟩
  · cases hx : (x0.toList == [])
    · have HN := hid (show numsM N s = none by rw [HEQ.out]; simp only; rw [if_neg]; rintro ⟨_, h⟩; rw [ByteArray.toList_eq, h] at hx; cases hx)
      have t2 : x0.toList.isEmpty = false := by cases h : x0.toList with
        | nil => rw [h] at hx; cases hx
        | cons a b => rfl
      clear hrn HEQ hx hN
      go_enter Tryd.func40, Tryd.ntmps40
      go_wp2_with (go_at_call 41; go_must (refine HSP.out.mono ?_); rintro e w1 ⟨rfl, rfl⟩; have hc0 := HC0.out; have hla := HLA.out)
      go_ret2
      exact ns_fail HN.out HKA.out
    · have HN := hid (show numsM N s = numsL r by rw [HEQ.out]; simp only; rw [if_pos ⟨hrn, by rw [ByteArray.toList_eq, beq_iff_eq] at hx; exact hx⟩])
      have t2 : x0.toList.isEmpty = true := by rw [beq_iff_eq] at hx; rw [hx]; rfl
      have HRN := hid (show r.length ≤ 5 by omega)
      have hne : ¬ r = [] := by rintro rfl; simp at hrn; omega
      have i0 : (1 : Int) ≤ (r.length : Int) + 1 := by omega
      have e0 : (r.length : Int) + 1 - 1 = (r.length : Int) := by omega
      clear hrn HEQ hx hN hn1
      go_enter Tryd.func40, Tryd.ntmps40
      go_wp2_with (go_at_call 41; go_must (refine HSP.out.mono ?_); rintro e w1 ⟨rfl, rfl⟩; have hc0 := HC0.out; have hla := HLA.out)
      clear hc0 t1 t2 i0 e0 hla kn
      generalize (w.alloc (.cells (Value.string x0 :: r.map Value.string).toArray 9)) = w1 at HC HKA HLA ⊢
      go_loopw [7, 28] (fun lv iv wr => ∃ (k : Nat) (A : Option Addr) (c : Nat) (acc : List Int), k ≤ r.length ∧ iv = .int .i64 (k : Int) ∧ lv = .slice A k c ∧ NsI r k acc ∧ OwnI wr w1.heap.size (.slice A k c) acc ∧ Kp w1 wr) (fun _ iv _ => r.length - (intOf iv).toNat)
      case atStart => exact ⟨0, none, 0, [], by omega, rfl, rfl, NsI.start _, OwnI.nil _ _, Kp.refl _⟩
      case round =>
        obtain ⟨k, A, c, acc, hk, rfl, rfl, hns, hown, hkp⟩ := hrel
        have HNS := hid hns; have HOW := hid hown; have HKP := hid hkp
        by_cases hlt : k < r.length
        · have i1 : (k : Int) < (r.length : Int) := by omega
          have k1 : IntKind.i64.wrap ((k : Int) + 1) = (k : Int) + 1 := by have := HRN.out; rw [IntKind.wrap_i64]; omega
          obtain ⟨X, hX⟩ : ∃ X, r[k]? = some X := ⟨_, List.getElem?_eq_getElem hlt⟩
          have q0 := (hkp.block w.heap.size HLA.out)
          have q1 : wr.cell? ⟨w.heap.size, k + 1, none⟩ = some (.string X) := by rw [World.cell?_of_block q0]; exact HC.out k X hX
          have q2 : wr.cell? ⟨w.heap.size, 1 + k, none⟩ = some (.string X) := by rw [Nat.add_comm]; exact q1
          have HXS := hid (HLE.out X (List.mem_cons_of_mem _ (by obtain ⟨h1, h2⟩ := List.getElem?_eq_some_iff.1 hX; rw [← h2]; exact List.getElem_mem h1)))
          have HRD := hid (fun w => read_o X w (by have := HXS.out; have := HSZ.out; omega))
          have HX := hid hX
          clear hX q0 hns hown hkp
          cases hr : readO X.data.toList with
          | none =>
            rw [hr] at HRD
            have HF := hid (show numsM N s = none by rw [HN.out]; exact NsI.miss HNS.out HX.out hr)
            clear hr
            go_wp2_with (go_at_call 42; go_must (refine (HRD.out _).mono ?_); rintro e w2 ⟨rfl, hk2⟩; have HK2 := hid hk2; clear hk2)
            go_ret2
            exact ns_fail HF.out ((HKA.out.trans HKP.out).trans HK2.out)
          | some v =>
            rw [hr] at HRD
            have HNX := hid (NsI.step HNS.out HX.out hr)
            have HLC := hid HNS.out.2.1
            have B1 := hid (show k + 1 ≤ maxLen by have := HRN.out; unfold maxLen; omega)
            have B2 := hid (show (k + 1) * 8 ≤ 140737488355328 by have := HRN.out; omega)
            have HW := hid HKP.out.le
            clear hr
            go_wp2_with first | (go_at_call 42; go_must (refine (HRD.out _).mono ?_); rintro e w2 ⟨rfl, hk2⟩; have HK2 := hid hk2; have HOW2 : Hid (OwnI w2 w1.heap.size (.slice A k c) acc) := hid (ownsRow_keep HOW.out hk2); have HOW3 : Hid (w2.ownsRow w1.heap.size 3 1 (.slice A k c) k (acc.map intV)) := hid (by have h := HOW2.out; unfold OwnI at h; rw [HLC.out] at h; exact h); clear hk2) | (at_builtin; go_must (refine app_lit elInt rfl (.tmp 39) (.tmp 41) rfl HOW3.out rfl #[.int .i64 v] _ 1 1 rfl rfl (by intro u hu; simp at hu; subst hu; rfl) B1.out B2.out (Nat.le_trans HW.out HK2.out.le) ?_); intro v5 w5 hown5 hg5 hm5 hn5 hb5; have HO5 := hid (ns_snoc HLC.out hown5); have HQ5 := hid (show Kp w1 w5 from Below.trans (HKP.out.trans HK2.out) hb5); obtain ⟨A5, c5, hv5⟩ := own_form HO5.out; rw [List.length_append, HLC.out, show [v].length = 1 from rfl] at hv5; subst hv5; clear hown5 hg5 hm5 hn5 hb5)
            exact ns_round hlt HNX.out HO5.out HQ5.out
        · obtain rfl : k = r.length := by omega
          have i1 : ¬ (r.length : Int) < (r.length : Int) := by omega
          have HE := hid (show numsM N s = some acc by rw [HN.out]; exact hns.fin)
          clear hns hown hkp
          go_wp2
          go_ret2
          exact ⟨⟨_, _, _, by rw [HE.out]; rfl, fun l hl => by rw [HE.out] at hl; cases hl; have h := HNS.out.2.1; have h2 := ns_own_len2 h HOW.out; rw [h] at h2; exact own_base (Nat.le_of_lt HLA.out) h2⟩, HKA.out.trans HKP.out⟩
  · have HN := hid (show numsM N s = none by rw [HEQ.out]; simp only; rw [if_neg]; rintro ⟨h, _⟩; exact hrn h)
    clear hrn HEQ hN
    go_enter Tryd.func40, Tryd.ntmps40
    go_wp2_with (go_at_call 41; go_must (refine HSP.out.mono ?_); rintro e w1 ⟨rfl, rfl⟩)
    go_ret2
    exact ns_fail HN.out HKA.out
end Go.Proofs.YtiicdknmoakocaaDoor
namespace Go.Proofs.YtiicdknmoakocaaDoor
open Go.RowKit
set_option linter.unusedVariables false
set_option linter.unusedSimpArgs false

/-- What a quoted text says. -/
noncomputable def unqO (s : ByteArray) : Option (List UInt8) := by
  classical exact if h : ∃ o l : List UInt8, s = ⟨(34 :: (l ++ [34])).toArray⟩ ∧ unq l = some o ∧ o.length ≤ 200 then some (Classical.choose h) else none
theorem quoted_inj {l m : List UInt8} (h : (⟨(34 :: (l ++ [34])).toArray⟩ : ByteArray) = ⟨(34 :: (m ++ [34])).toArray⟩) : l = m := by
  have h1 := congrArg (fun b => b.data.toList) h
  simpa using h1
theorem unqO_mk {l o : List UInt8} (h : unq l = some o) (ho : o.length ≤ 200) : unqO ⟨(34 :: (l ++ [34])).toArray⟩ = some o := by
  unfold unqO
  have hx : ∃ o' l' : List UInt8, (⟨(34 :: (l ++ [34])).toArray⟩ : ByteArray) = ⟨(34 :: (l' ++ [34])).toArray⟩ ∧ unq l' = some o' ∧ o'.length ≤ 200 := ⟨o, l, rfl, h, ho⟩
  rw [dif_pos hx]
  obtain ⟨l', h1, h2, _⟩ := Classical.choose_spec hx
  obtain rfl := quoted_inj h1
  rw [h] at h2
  exact h2.symm
theorem unqO_none {l : List UInt8} (h : ∀ o, unq l = some o → 200 < o.length) : unqO ⟨(34 :: (l ++ [34])).toArray⟩ = none := by
  unfold unqO
  rw [dif_neg]
  rintro ⟨o, l', h1, h2, h3⟩
  obtain rfl := quoted_inj h1
  have := h o h2
  omega
theorem unqO_len {s : ByteArray} {o : List UInt8} (h : unqO s = some o) : o.length ≤ 200 := by
  unfold unqO at h
  split at h
  · rename_i hx
    injection h with h
    subst h
    obtain ⟨l', _, _, h3⟩ := Classical.choose_spec hx
    exact h3
  · cases h
/-- scan.Unquote at every text. -/
theorem unquote_o (s : ByteArray) (w : World) (hs : s.size ≤ 140737488351232) : Calls Tryd.prog 38 #[.string s] w fun e w' => e = .returned (.tuple #[.string ⟨((unqO s).getD []).toArray⟩, .int .i64 (if (unqO s).isSome then 0 else 4)]) ∧ Kp w w' := by
  by_cases hq : ∃ l : List UInt8, s = ⟨(34 :: (l ++ [34])).toArray⟩
  · obtain ⟨l, rfl⟩ := hq
    refine (unquote_mk l w (by simp [ByteArray.size] at hs; omega)).mono ?_
    rintro e w' ⟨⟨o, h1, h2, rfl⟩ | ⟨h1, rfl⟩, hk⟩
    · have h1 : unq l = some o := by simpa using h1
      rw [unqO_mk h1 h2]
      exact ⟨rfl, hk⟩
    · have h1 : ∀ o, unq l = some o → 200 < o.length := by simpa using h1
      rw [unqO_none h1]
      exact ⟨rfl, hk⟩
  · refine (unquote_not s w hs (fun h2 hx => hq (quoted_form s h2 hx.1 hx.2))).mono ?_
    rintro e w' ⟨rfl, hk⟩
    have : unqO s = none := by
      unfold unqO
      rw [dif_neg]
      rintro ⟨o, l, h1, _⟩
      exact hq ⟨l, h1⟩
    rw [this]
    exact ⟨rfl, hk⟩
/-! ### the code so far -/
def addIns (fs : List FnM) (i : InsM) : List FnM := fs.dropLast ++ (fs.getLast?.map fun f => { f with ins := f.ins ++ [i] }).toList
theorem addIns_snoc (ini : List FnM) (f : FnM) (i : InsM) : addIns (ini ++ [f]) i = ini ++ [{ f with ins := f.ins ++ [i] }] := by simp [addIns]
def mk (l : List UInt8) : ByteArray := ⟨l.toArray⟩
noncomputable def takeT (c : CodeM) (r : ByteArray) : Option CodeM := match unqO r with
  | some t => if c.funcs = [] then some ⟨c.funcs, c.texts ++ [mk t]⟩ else none
  | none => none
noncomputable def takeF (c : CodeM) (r : ByteArray) : Option CodeM := if Lib.indexByte r.data.toList 32 < 0 then none else match numsM 3 (r.extract (Lib.indexByte r.data.toList 32).toNat r.size) with
  | some [x, y, z] => some ⟨c.funcs ++ [⟨r.extract 0 (Lib.indexByte r.data.toList 32).toNat, x, y, z, []⟩], c.texts⟩
  | _ => none
/-- The number of a word. -/
def opOf (r : ByteArray) : Nat := mwordsL.idxOf (Lib.cut r.data.toList [32]).1
noncomputable def takeI (c : CodeM) (r : ByteArray) : Option CodeM := if c.funcs = [] ∨ ¬ (0 < opOf r ∧ opOf r < 42) then none else match numsM 5 (r.extract (Lib.cut r.data.toList [32]).1.length r.size) with
  | some [x1, x2, x3, x4, x5] => some ⟨addIns c.funcs ⟨opOf r, x1, x2, x3, x4, x5⟩, c.texts⟩
  | _ => none
noncomputable def takeM (c : CodeM) (s : ByteArray) : Option CodeM :=
  if textP.isPrefixOf s.data.toList then takeT c (mk (s.data.toList.drop 5))
  else if funcP.isPrefixOf s.data.toList then takeF c (mk (s.data.toList.drop 5))
  else if ([32, 32] : List UInt8).isPrefixOf s.data.toList then takeI c (mk (s.data.toList.drop 2)) else none
end Go.Proofs.YtiicdknmoakocaaDoor
namespace Go.Proofs.YtiicdknmoakocaaDoor
open Go.RowKit
set_option linter.unusedVariables false
set_option linter.unusedSimpArgs false

/-- A function whose instructions lie in a row from B up to M. -/
def CeT (B M : Nat) (w : World) (cs : List Value) (f : FnM) : Prop := ∃ lins, cs = [.string f.name, .int .i64 f.params, .int .i64 f.slots, .int .i64 f.caps, lins] ∧ OwnL CeIns 6 64 w B lins f.ins ∧ okFnB f ∧ ∀ g, lins.ownBlock = some g → g < M
theorem CeT.ofn {B M : Nat} {w : World} {cs : List Value} {f : FnM} (h : CeT B M w cs f) : CeOFn B w cs f := by
  obtain ⟨l, h1, h2, h3, _⟩ := h; exact ⟨l, h1, h2, h3⟩
theorem CeT.kp {B M : Nat} {w w' : World} (hk : Kp w w') {cs : List Value} {f : FnM} (h : CeT B M w cs f) : CeT B M w' cs f := by
  obtain ⟨l, h1, h2, h3, h4⟩ := h; exact ⟨l, h1, h2.kp CeIns.kp hk, h3, h4⟩
theorem CeT.touch {B M : Nat} {e : TypeId} (hne : 64 ≠ e) {w w' : World} (ht : Touch e w w') {cs : List Value} {f : FnM} (h : CeT B M w cs f) : CeT B M w' cs f := by
  obtain ⟨l, h1, h2, h3, h4⟩ := h; exact ⟨l, h1, ownL_touch hne (fun _ _ h => h.any) h2 ht, h3, h4⟩
theorem CeT.mono {B M M' : Nat} (hM : M ≤ M') {w : World} {cs : List Value} {f : FnM} (h : CeT B M w cs f) : CeT B M' w cs f := by
  obtain ⟨l, h1, h2, h3, h4⟩ := h; exact ⟨l, h1, h2, h3, fun g hg => Nat.lt_of_lt_of_le (h4 g hg) hM⟩
theorem CeT.grown {B M : Nat} {row : Option Nat} {w w' : World} (hg : w.grownBy w' row) (hr : ∀ g, row = some g → M ≤ g) {cs : List Value} {f : FnM} (h : CeT B M w cs f) : CeT B M w' cs f := by
  obtain ⟨l, h1, h2, h3, h4⟩ := h
  exact ⟨l, h1, ownL_kept (fun _ _ h => h.any) h2 hg (fun g h5 e => by have := h4 g h5; have := hr g e.symm; omega), h3, h4⟩
/-- The functions so far: the last one's instructions lie behind all the others'. -/
def TkF (B : Nat) (w : World) (vf : Value) (fs : List FnM) : Prop :=
  (fs = [] ∧ vf = .slice none 0 0) ∨ ∃ (ini : List FnM) (f : FnM) (xs : List Value) (lins : Value) (M : Nat), fs = ini ++ [f] ∧ w.ownsRow B 60 5 vf (ini.length + 1) (xs ++ [.string f.name, .int .i64 f.params, .int .i64 f.slots, .int .i64 f.caps, lins]) ∧ Chunk (CeT B M) 5 w xs ini ∧ OwnL CeIns 6 64 w M lins f.ins ∧ okFnB f ∧ B ≤ M ∧ M ≤ w.heap.size
theorem TkF.kp {B : Nat} {w w' : World} {vf : Value} {fs : List FnM} (hk : Kp w w') (h : TkF B w vf fs) : TkF B w' vf fs := by
  rcases h with h | ⟨ini, f, xs, lins, M, h1, h2, h3, h4, h5, h6, h7⟩
  · exact .inl h
  · exact .inr ⟨ini, f, xs, lins, M, h1, ownsRow_keep h2 hk, Chunk.mono (fun _ _ x => x.kp hk) h3, h4.kp CeIns.kp hk, h5, h6, Nat.le_trans h7 hk.le⟩
theorem TkF.touch {B : Nat} {e : TypeId} (hne : 64 ≠ e) (hne2 : 60 ≠ e) {w w' : World} (ht : Touch e w w') {vf : Value} {fs : List FnM} (h : TkF B w vf fs) : TkF B w' vf fs := by
  rcases h with h | ⟨ini, f, xs, lins, M, h1, h2, h3, h4, h5, h6, h7⟩
  · exact .inl h
  · exact .inr ⟨ini, f, xs, lins, M, h1, ownsRow_touch hne2 h2 ht, Chunk.mono (fun _ _ x => x.touch hne ht) h3, ownL_touch hne (fun _ _ h => h.any) h4 ht, h5, h6, Nat.le_trans h7 ht.1⟩
theorem own_blk_lt {α : Type} {el : World → List Value → α → Prop} {sz : Nat} {e : TypeId} {w : World} {base : Nat} {v : Value} {l : List α} (h : OwnL el sz e w base v l) : ∀ g, v.ownBlock = some g → base ≤ g ∧ g < w.heap.size := by
  obtain ⟨xs, q, _⟩ := h; exact fun g hg => q.lt g hg
theorem TkF.row {B : Nat} {w : World} {vf : Value} {fs : List FnM} (h : TkF B w vf fs) (hB : B ≤ w.heap.size) : ∃ xs, w.ownsRow B 60 5 vf fs.length xs ∧ Chunk (CeT B w.heap.size) 5 w xs fs := by
  rcases h with ⟨rfl, rfl⟩ | ⟨ini, f, xs, lins, M, rfl, h2, h3, h4, h5, h6, h7⟩
  · exact ⟨[], World.ownsRow_nil _ _ _ _, rfl⟩
  · exact ⟨_, by rw [List.length_append]; exact h2, Chunk.append (Chunk.one (show CeT B w.heap.size w _ f from ⟨lins, rfl, h4.base_ h6, h5, fun g hg => (own_blk_lt h4 g hg).2⟩) rfl) (Chunk.mono (fun _ _ x => x.mono h7) h3)⟩
theorem TkF.own {B : Nat} {w : World} {vf : Value} {fs : List FnM} (h : TkF B w vf fs) (hB : B ≤ w.heap.size) : OwnL (CeOFn B) 5 60 w B vf fs := by
  obtain ⟨xs, h1, h2⟩ := h.row hB
  exact ⟨xs, h1, Chunk.mono (fun _ _ x => x.ofn) h2⟩
/-- A function more, without instructions. -/
theorem TkF.push {B : Nat} {w w' : World} {v' : Value} {fs : List FnM} {xs : List Value} {f : FnM} (hx : Chunk (CeT B w.heap.size) 5 w xs fs) (ht : Touch 60 w w') (hB : B ≤ w.heap.size) (hf : okFnB f) (hi : f.ins = []) (h : w'.ownsRow B 60 5 v' (fs.length + 1) (xs ++ [.string f.name, .int .i64 f.params, .int .i64 f.slots, .int .i64 f.caps, .slice none 0 0])) : TkF B w' v' (fs ++ [f]) :=
  .inr ⟨fs, f, xs, _, w.heap.size, rfl, h, Chunk.mono (fun _ _ x => x.touch (by decide) ht) hx, by rw [hi]; exact OwnL.nil _ _ _ _ _, hf, hB, ht.1⟩
/-- The state of Read, behind W. -/
structure TkX (W : World) (cb N : Nat) (vf vt : Value) (c : CodeM) (u : World) : Prop where
  le : W.heap.size ≤ cb
  kp : Kp W u
  box : u.heap[cb]? = some (.cells #[vf, vt] 32 (0, 0))
  fns : TkF (cb + 1) u vf c.funcs
  txs : OwnL CeStr 1 9 u (cb + 1) vt c.texts
  fN : c.funcs.length ≤ N
  tN : c.texts.length ≤ N
  iN : ∀ f ∈ c.funcs, f.ins.length ≤ N
theorem TkX.keep {W u u' : World} {cb N : Nat} {vf vt : Value} {c : CodeM} (h : TkX W cb N vf vt c u) (hk : Kp u u') : TkX W cb N vf vt c u' :=
  ⟨h.le, h.kp.trans hk, (hk.block _ (blk_lt h.box)).trans h.box, h.fns.kp hk, h.txs.kp CeStr.kp hk, h.fN, h.tN, h.iN⟩
theorem TkX.lt {W u : World} {cb N : Nat} {vf vt : Value} {c : CodeM} (h : TkX W cb N vf vt c u) : cb + 1 ≤ u.heap.size := blk_lt h.box
/-- A text more. -/
theorem TkX.text {W u u' : World} {cb N : Nat} {vf vt vt' : Value} {c : CodeM} {t : ByteArray} (h : TkX W cb N vf vt c u) (ht : Touch 9 u u') (hb : Below (cb + 1) u u') (hv : OwnL CeStr 1 9 u' (cb + 1) vt' (c.texts ++ [t])) : TkX W cb (N + 1) vf vt' ⟨c.funcs, c.texts ++ [t]⟩ (u'.setCell ⟨cb, 1, none⟩ vt') := by
  have hbx : u'.heap[cb]? = some (.cells #[vf, vt] 32 (0, 0)) := ht.2 _ _ h.box (fun cs fr e => by injection e with _ e _; exact absurd e (by decide))
  have hs := rowTouch (o := 1) hbx vt'
  refine ⟨h.le, ?_, blk_set hbx vt', (h.fns.touch (by decide) (by decide) ht).touch (by decide) (by decide) hs, ownL_touch (by decide) (fun _ _ x => CeStr.any x) hv hs, Nat.le_succ_of_le h.fN, ?_, fun f hf => Nat.le_succ_of_le (h.iN f hf)⟩
  · exact (Below.trans h.kp (Below.mono hb (by have := h.le; omega))).setCell (p := ⟨cb, 1, none⟩) h.le vt'
  · have := h.tN; show (c.texts ++ [t]).length ≤ _; rw [List.length_append, List.length_singleton]; omega
/-- A row of functions that has grown, not stored yet. -/
structure TkY (W : World) (cb N : Nat) (bf vf vt : Value) (c : CodeM) (u : World) : Prop where
  le : W.heap.size ≤ cb
  kp : Kp W u
  box : u.heap[cb]? = some (.cells #[bf, vt] 32 (0, 0))
  fns : TkF (cb + 1) u vf c.funcs
  txs : OwnL CeStr 1 9 u (cb + 1) vt c.texts
  fN : c.funcs.length ≤ N
  tN : c.texts.length ≤ N
  iN : ∀ f ∈ c.funcs, f.ins.length ≤ N
theorem TkY.keep {W u u' : World} {cb N : Nat} {bf vf vt : Value} {c : CodeM} (h : TkY W cb N bf vf vt c u) (hk : Kp u u') : TkY W cb N bf vf vt c u' :=
  ⟨h.le, h.kp.trans hk, (hk.block _ (blk_lt h.box)).trans h.box, h.fns.kp hk, h.txs.kp CeStr.kp hk, h.fN, h.tN, h.iN⟩
theorem TkY.set {W u : World} {cb N : Nat} {bf vf vt : Value} {c : CodeM} (h : TkY W cb N bf vf vt c u) : TkX W cb N vf vt c (u.setCell ⟨cb, 0, none⟩ vf) := by
  have hs := rowTouch (o := 0) h.box vf
  exact ⟨h.le, h.kp.setCell (p := ⟨cb, 0, none⟩) h.le vf, blk_set h.box vf, h.fns.touch (by decide) (by decide) hs, ownL_touch (by decide) (fun _ _ x => CeStr.any x) h.txs hs, h.fN, h.tN, h.iN⟩
/-- A function more. -/
theorem TkX.func {W u u' : World} {cb N : Nat} {vf vt vf' : Value} {c : CodeM} {f : FnM} {xs : List Value} (h : TkX W cb N vf vt c u) (hx : Chunk (CeT (cb + 1) u.heap.size) 5 u xs c.funcs) (ht : Touch 60 u u') (hb : Below (cb + 1) u u') (hf : okFnB f) (hi : f.ins = []) (hv : u'.ownsRow (cb + 1) 60 5 vf' (c.funcs.length + 1) (xs ++ [.string f.name, .int .i64 f.params, .int .i64 f.slots, .int .i64 f.caps, .slice none 0 0])) : TkY W cb (N + 1) vf vf' vt ⟨c.funcs ++ [f], c.texts⟩ u' := by
  have hbx : u'.heap[cb]? = some (.cells #[vf, vt] 32 (0, 0)) := ht.2 _ _ h.box (fun cs fr e => by injection e with _ e _; exact absurd e (by decide))
  refine ⟨h.le, Below.trans h.kp (Below.mono hb (by have := h.le; omega)), hbx, TkF.push hx ht h.lt hf hi hv, ownL_touch (by decide) (fun _ _ x => CeStr.any x) h.txs ht, ?_, Nat.le_succ_of_le h.tN, fun g hg => ?_⟩
  · have := h.fN; show (c.funcs ++ [f]).length ≤ _; rw [List.length_append, List.length_singleton]; omega
  · rcases List.mem_append.1 hg with hg | hg
    · exact Nat.le_succ_of_le (h.iN g hg)
    · rw [List.mem_singleton] at hg; subst hg; rw [hi]; exact Nat.zero_le _
def okIn (m : InsM) : Prop := okI m.op ∧ okI m.a ∧ okI m.b ∧ okI m.c ∧ okI m.d ∧ okI m.e
/-- The last function, taken apart. -/
structure TkL (B : Nat) (u : World) (g cc : Nat) (ini : List FnM) (f : FnM) (xs : List Value) (lins : Value) (M : Nat) : Prop where
  row : u.ownsRow B 60 5 (.slice (some ⟨g, 0, none⟩) (ini.length + 1) cc) (ini.length + 1) (xs ++ [.string f.name, .int .i64 f.params, .int .i64 f.slots, .int .i64 f.caps, lins])
  ch : Chunk (CeT B M) 5 u xs ini
  ins : OwnL CeIns 6 64 u M lins f.ins
  ok : okFnB f
  le : B ≤ M
  lt : M ≤ u.heap.size
theorem TkX.last {W u : World} {cb N : Nat} {vf vt : Value} {c : CodeM} (h : TkX W cb N vf vt c u) (hne : c.funcs ≠ []) : ∃ g cc ini f xs lins M, vf = .slice (some ⟨g, 0, none⟩) (ini.length + 1) cc ∧ c.funcs = ini ++ [f] ∧ TkL (cb + 1) u g cc ini f xs lins M := by
  rcases h.fns with ⟨h, _⟩ | ⟨ini, f, xs, lins, M, h1, h2, h3, h4, h5, h6, h7⟩
  · exact absurd h hne
  · obtain ⟨g, cc, rfl, _⟩ := rowSome h2 (by omega)
    exact ⟨g, cc, ini, f, xs, lins, M, rfl, h1, h2, h3, h4, h5, h6, h7⟩
section
variable {B : Nat} {u : World} {g cc M : Nat} {ini : List FnM} {f : FnM} {xs : List Value} {lins : Value}
theorem TkL.keep {u' : World} (h : TkL B u g cc ini f xs lins M) (hk : Kp u u') : TkL B u' g cc ini f xs lins M :=
  ⟨ownsRow_keep h.row hk, Chunk.mono (fun _ _ x => x.kp hk) h.ch, h.ins.kp CeIns.kp hk, h.ok, h.le, Nat.le_trans h.lt hk.le⟩
theorem TkL.at_ (h : TkL B u g cc ini f xs lins M) : u.cell? ⟨g, ini.length * 5 + 4, none⟩ = some lins ∧ u.frozen? ⟨g, ini.length * 5 + 4, none⟩ = false := by
  obtain ⟨h1, h2⟩ := rowAt h.row (j := ini.length * 5 + 4) (by omega)
  refine ⟨?_, h2⟩
  have hl := h.ch.len
  rw [h1, List.getElem?_append_right (by omega), hl, Nat.add_sub_cancel_left]
  rfl
theorem TkX.ins_ {W w' : World} {cb N : Nat} {vt v' : Value} {c : CodeM} {i : InsM} {xsi : List Value} (h : TkX W cb N (.slice (some ⟨g, 0, none⟩) (ini.length + 1) cc) vt c u) (L : TkL (cb + 1) u g cc ini f xs lins M) (hc : c.funcs = ini ++ [f]) (hx : u.ownsRow M 64 6 lins f.ins.length xsi) (hx2 : Chunk CeIns 6 u xsi f.ins) (hg : u.grownBy w' lins.ownBlock) (hb : Below M u w') (hi : okIn i)
    (hv : w'.ownsRow M 64 6 v' (f.ins.length + 1) (xsi ++ [.int .i64 i.op, .int .i64 i.a, .int .i64 i.b, .int .i64 i.c, .int .i64 i.d, .int .i64 i.e])) (hN : N + 1 ≤ 4294967296) : TkX W cb (N + 1) (.slice (some ⟨g, 0, none⟩) (ini.length + 1) cc) vt ⟨addIns c.funcs i, c.texts⟩ (w'.setCell ⟨g, ini.length * 5 + 4, none⟩ v') := by
  have ht : Touch 64 u w' := Touch.of_grown hx hg
  have hrow := ownsRow_touch (by decide) L.row ht
  have hge := rowGe hrow
  obtain ⟨cs, fr, hgb⟩ := rowBlk hrow
  have hs := rowTouch (o := ini.length * 5 + 4) hgb v'
  have hl := L.ch.len
  have hif := h.iN f (by rw [hc]; simp)
  have hbx : w'.heap[cb]? = some (.cells #[.slice (some ⟨g, 0, none⟩) (ini.length + 1) cc, vt] 32 (0, 0)) := ht.2 _ _ h.box (fun cs fr e => by injection e with _ e _; exact absurd e (by decide))
  have hset := rowSet hrow (j := ini.length * 5 + 4) (by omega) v'
  rw [List.set_append_right _ _ (by omega), hl, Nat.add_sub_cancel_left] at hset
  have hins : OwnL CeIns 6 64 w' M v' (f.ins ++ [i]) := OwnL.snoc (n := f.ins.length + 1) rfl hx2 (fun _ _ h => CeIns.any h) ⟨rfl, hi⟩ rfl hv
  have hle := L.le
  have hlt := L.lt
  rw [hc, addIns_snoc]
  refine ⟨h.le, ?_, (blk_far (p := ⟨g, ini.length * 5 + 4, none⟩) (by show cb ≠ g; omega) v').trans hbx, .inr ⟨ini, { f with ins := f.ins ++ [i] }, xs, v', M, rfl, hset, ?_, ownL_touch (by decide) (fun _ _ x => CeIns.any x) hins hs, ⟨L.ok.1, L.ok.2.1, L.ok.2.2.1, L.ok.2.2.2.1, ?_⟩, hle, ?_⟩, ownL_touch (by decide) (fun _ _ x => CeStr.any x) (ownL_touch (by decide) (fun _ _ x => CeStr.any x) h.txs ht) hs, ?_, Nat.le_succ_of_le h.tN, fun k hk => ?_⟩
  · exact (Below.trans h.kp (Below.mono hb (by have := h.le; omega))).setCell (p := ⟨g, ini.length * 5 + 4, none⟩) (by have := h.le; show W.heap.size ≤ g; omega) v'
  · exact Chunk.mono (fun _ _ x => x.touch (by decide) hs) (Chunk.mono (fun _ _ x => x.grown hg (fun k hk => (own_blk_lt L.ins k hk).1)) L.ch)
  · show (f.ins ++ [i]).length * 48 ≤ _
    rw [List.length_append, List.length_singleton]; omega
  · have h1 := hg.size
    have h2 := hs.1
    omega
  · have := h.fN
    rw [hc] at this
    show (ini ++ [_]).length ≤ _
    simp only [List.length_append, List.length_singleton] at this ⊢
    omega
  · rcases List.mem_append.1 hk with hk | hk
    · exact Nat.le_succ_of_le (h.iN k (by rw [hc]; exact List.mem_append_left _ hk))
    · rw [List.mem_singleton] at hk; subst hk
      show (f.ins ++ [i]).length ≤ _
      rw [List.length_append, List.length_singleton]; omega
/-- The last function's instructions have grown, not stored yet. -/
def TkZ (W : World) (cb N g cc : Nat) (ini : List FnM) (f : FnM) (xs : List Value) (lins : Value) (M : Nat) (vt : Value) (c : CodeM) (i : InsM) (v' : Value) (u : World) : Prop := ∃ u0 xsi, TkX W cb N (.slice (some ⟨g, 0, none⟩) (ini.length + 1) cc) vt c u0 ∧ TkL (cb + 1) u0 g cc ini f xs lins M ∧ u0.ownsRow M 64 6 lins f.ins.length xsi ∧ Chunk CeIns 6 u0 xsi f.ins ∧ u0.grownBy u lins.ownBlock ∧ Below M u0 u ∧ u.ownsRow M 64 6 v' (f.ins.length + 1) (xsi ++ [.int .i64 i.op, .int .i64 i.a, .int .i64 i.b, .int .i64 i.c, .int .i64 i.d, .int .i64 i.e])
theorem TkZ.keep {W u' : World} {cb N : Nat} {vt v' : Value} {c : CodeM} {i : InsM} (h : TkZ W cb N g cc ini f xs lins M vt c i v' u) (hk : Kp u u') : TkZ W cb N g cc ini f xs lins M vt c i v' u' := by
  obtain ⟨u0, xsi, h1, h2, h3, h4, h5, h6, h7⟩ := h
  have hle := h5.size
  exact ⟨u0, xsi, h1, h2, h3, h4, h5.trans (grown_kp hk _), Below.trans h6 (Below.mono hk (Nat.le_trans h2.lt hle)), ownsRow_keep h7 hk⟩
theorem TkZ.at_ {W : World} {cb N : Nat} {vt v' : Value} {c : CodeM} {i : InsM} (h : TkZ W cb N g cc ini f xs lins M vt c i v' u) : u.cell? ⟨g, ini.length * 5 + 4, none⟩ = some lins ∧ u.frozen? ⟨g, ini.length * 5 + 4, none⟩ = false := by
  obtain ⟨u0, xsi, h1, h2, h3, h4, h5, h6, h7⟩ := h
  have hrow := ownsRow_touch (by decide) h2.row (Touch.of_grown (e := 64) h3 h5)
  obtain ⟨e1, e2⟩ := rowAt hrow (j := ini.length * 5 + 4) (by omega)
  refine ⟨?_, e2⟩
  have hl := h2.ch.len
  rw [e1, List.getElem?_append_right (by omega), hl, Nat.add_sub_cancel_left]
  rfl
theorem TkZ.set {W : World} {cb N : Nat} {vt v' : Value} {c : CodeM} {i : InsM} (h : TkZ W cb N g cc ini f xs lins M vt c i v' u) (hc : c.funcs = ini ++ [f]) (hi : okIn i) (hN : N + 1 ≤ 4294967296) : TkX W cb (N + 1) (.slice (some ⟨g, 0, none⟩) (ini.length + 1) cc) vt ⟨addIns c.funcs i, c.texts⟩ (u.setCell ⟨g, ini.length * 5 + 4, none⟩ v') := by
  obtain ⟨u0, xsi, h1, h2, h3, h4, h5, h6, h7⟩ := h
  exact h1.ins_ h2 hc h3 h4 h5 h6 hi h7 hN
end
end Go.Proofs.YtiicdknmoakocaaDoor
namespace Go.Proofs.YtiicdknmoakocaaDoor
open Go.RowKit
set_option linter.unusedVariables false
set_option linter.unusedSimpArgs false

theorem cp_hit (s p : ByteArray) (w : World) (h : p.data.toList.isPrefixOf s.data.toList = true) : Calls Tryd.prog 37 #[.string s, .string p] w fun e w' => e = .returned (.tuple #[.string (mk (s.data.toList.drop p.data.toList.length)), .bool true]) ∧ w = w' := by
  refine (Tryd.strings_CutPrefix s p w).mono ?_
  rintro e w' ⟨rfl, rfl⟩
  refine ⟨?_, rfl⟩
  unfold Lib.trimPrefix Lib.hasPrefix
  rw [h]; rfl
theorem cp_miss (s p : ByteArray) (w : World) (h : p.data.toList.isPrefixOf s.data.toList = false) : Calls Tryd.prog 37 #[.string s, .string p] w fun e w' => e = .returned (.tuple #[.string s, .bool false]) ∧ w = w' := by
  refine (Tryd.strings_CutPrefix s p w).mono ?_
  rintro e w' ⟨rfl, rfl⟩
  refine ⟨?_, rfl⟩
  unfold Lib.trimPrefix Lib.hasPrefix
  rw [h]; simp
def TkPost (W : World) (cb N : Nat) (res : Option CodeM) (e : Ending) (w' : World) : Prop :=
  ((∃ c' vf vt, res = some c' ∧ e = .returned (.bool true) ∧ TkX W cb (N + 1) vf vt c' w') ∨ (res = none ∧ e = .returned (.bool false))) ∧ Kp W w'
theorem tk_fail {W w' : World} {cb N : Nat} {res : Option CodeM} (h : res = none) (hk : Kp W w') : TkPost W cb N res (.returned (.bool false)) w' := ⟨.inr ⟨h, rfl⟩, hk⟩
theorem tk_ok {W w' : World} {cb N : Nat} {res : Option CodeM} {c' : CodeM} {vf vt : Value} (h : res = some c') (hx : TkX W cb (N + 1) vf vt c' w') : TkPost W cb N res (.returned (.bool true)) w' := ⟨.inl ⟨c', vf, vt, h, rfl, hx⟩, hx.kp⟩
theorem mk_size (l : List UInt8) : (mk l).size = l.length := by simp [mk, ByteArray.size]
theorem drop_le (s : ByteArray) (k : Nat) : (mk (s.data.toList.drop k)).size ≤ s.size := by
  have hz : s.data.toList.length = s.size := by rw [Array.length_toList]; rfl
  rw [mk_size, List.length_drop]; omega
set_option maxRecDepth 20000 in
set_option maxHeartbeats 8000000 in
theorem take_text (W : World) (cb N : Nat) (vf vt : Value) (c : CodeM) (s : ByteArray) (u : World) (h : TkX W cb N vf vt c u) (hN : N + 1 ≤ 4294967296) (hs : s.size < 4294967281) (hp : textP.isPrefixOf s.data.toList = true) :
    Calls Tryd.prog 27 #[.pointer (some ⟨cb, 0, none⟩), .string s] u (TkPost W cb N (takeT c (mk (s.data.toList.drop 5)))) := by
  have HCP := hid (fun w => cp_hit s ⟨#[116, 101, 120, 116, 32]⟩ w hp)
  rw [show (mk (s.data.toList.drop (⟨#[116, 101, 120, 116, 32]⟩ : ByteArray).data.toList.length)) = mk (s.data.toList.drop 5) from rfl] at HCP
  have hRs := drop_le s 5
  generalize mk (s.data.toList.drop 5) = R at HCP hRs ⊢
  have HUQ := hid (fun w => unquote_o R w (by omega))
  have HR : Hid (takeT c R = match unqO R with | some t => if c.funcs = [] then some ⟨c.funcs, c.texts ++ [mk t]⟩ else none | none => none) := hid rfl
  generalize takeT c R = res at HR ⊢
  have HX := hid h
  have hlf : (∃ A n cc, vf = .slice A n cc ∧ n = c.funcs.length) := by
    obtain ⟨xs, h1, _⟩ := h.fns.row h.lt
    obtain ⟨A, cc, h2⟩ := own_form h1
    exact ⟨A, _, cc, h2, rfl⟩
  obtain ⟨Af, nf, cf, rfl, hnf⟩ := hlf
  obtain ⟨xt, l1, l2⟩ := h.txs
  have HL1 := hid l1; have HL2 := hid l2
  obtain ⟨At, ct, rfl⟩ := own_form l1
  have B1 := hid (show c.texts.length + 1 ≤ maxLen by have := h.tN; unfold maxLen; omega)
  have B2 := hid (show (c.texts.length + 1) * 16 ≤ 140737488355328 by have := h.tN; omega)
  have HNF := hid hnf
  clear l1 l2 hp hRs hN hs
  have hbox := h.box
  have q0 := blk_cell (o := 0) (v := Value.slice Af nf cf) hbox rfl
  have q1 := blk_cell (o := 1) (v := Value.slice At c.texts.length ct) hbox rfl
  have ql := blk_lt hbox
  clear hbox h hnf
  obtain ⟨T, hT⟩ : ∃ T : ByteArray, (⟨((unqO R).getD []).toArray⟩ : ByteArray) = T := ⟨_, rfl⟩
  obtain ⟨E, hE⟩ : ∃ E : Int, (if (unqO R).isSome then 0 else 4 : Int) = E := ⟨_, rfl⟩
  rw [hT, hE] at HUQ
  have HT := hid hT; have HE := hid hE
  have HTS := hid (show T.size ≤ 200 by
    rw [← hT]
    cases ho : unqO R with
    | none => simp [ByteArray.size]
    | some t => have := unqO_len ho; simpa [ByteArray.size] using this)
  clear hT hE
  go_enter Tryd.func27, Tryd.ntmps27
  go_upto_region 4 with first | (go_at_call 37; go_must (refine (HCP.out _).mono ?_); rintro e w1 ⟨rfl, rfl⟩) | (go_at_call 38; go_must (refine (HUQ.out _).mono ?_); rintro e w2 ⟨rfl, hk2⟩; have HK2 := hid hk2; clear hk2)
  clear q0 q1 ql
  have HX2 := hid (HX.out.keep HK2.out)
  have q1 := blk_cell (o := 1) (v := Value.slice At c.texts.length ct) HX2.out.box rfl
  have ql := blk_lt HX2.out.box
  have HO2 := hid (ownsRow_keep HL1.out HK2.out)
  have HW2 := hid HX2.out.lt
  go_upto_region 5 with (at_builtin; refine app_lit elStrW ?p0 (.tmp 39) (.tmp 41) ?p1 HO2.out ?p2 #[.string T] 9 1 1 ?p3 ?p4 ?p5 B1.out B2.out HW2.out ?p8)
  case p0 => rfl
  case p1 => rfl
  case p2 => rfl
  case p3 => rfl
  case p4 => rfl
  case p5 => exact rfl
  case p8 =>
    intro v5 w5 G1 G2 _ _ G4
    obtain ⟨A5, c5, rfl⟩ := own_form G1
    have HLT := hid (show OwnL CeStr 1 9 w5 (cb + 1) (.slice A5 (c.texts.length + 1) c5) (c.texts ++ [T]) from OwnL.snoc (n := c.texts.length + 1) rfl (HL2.out) (fun _ _ h => CeStr.any h) ⟨rfl, by have := HTS.out; omega⟩ rfl G1)
    have HX5 := hid (HX2.out.text (Touch.of_grown HO2.out G2) G4 HLT.out)
    have hbx : w5.heap[cb]? = some (.cells #[.slice Af nf cf, .slice At c.texts.length ct] 32 (0, 0)) := (Touch.of_grown HO2.out G2).2 _ _ HX2.out.box (fun cs fr e => by injection e with _ e _; exact absurd e (by decide))
    have s0 := blk_cell (o := 1) (v := Value.slice At c.texts.length ct) hbx rfl
    have s1 := blk_free (o := 1) hbx
    have sl := blk_lt hbx
    clear q1 ql hbx G1 G2 G4
    go_upto_region 5 with fail
    clear s0 s1 sl
    generalize (w5.setCell ⟨cb, 1, none⟩ (.slice A5 (c.texts.length + 1) c5)) = wS at HX5 ⊢
    have q0 := blk_cell (o := 0) (v := Value.slice Af nf cf) HX5.out.box rfl
    have ql := blk_lt HX5.out.box
    cases ho : unqO R with
    | none =>
      have hE := HE.out
      rw [ho] at hE
      have t0 : (E == 0) = false := by rw [← hE]; rfl
      have HN := hid (show res = none by rw [HR.out, ho])
      clear ho hE
      go_wp2
      go_ret
      exact tk_fail HN.out HX5.out.kp
    | some t =>
      have hE := HE.out
      rw [ho] at hE
      have hT := HT.out
      rw [ho] at hT
      have t0 : (E == 0) = true := by rw [← hE]; rfl
      by_cases hf : c.funcs = []
      · have t1 : ((nf : Int) == 0) = true := by rw [HNF.out, hf]; rfl
        have HN := hid (show res = some ⟨c.funcs, c.texts ++ [T]⟩ by rw [HR.out, ho, ← hT]; show (if c.funcs = [] then _ else _) = _; rw [if_pos hf]; rfl)
        clear ho hE hf hT
        go_wp2
        go_ret
        exact tk_ok HN.out HX5.out
      · have t1 : ((nf : Int) == 0) = false := by rw [beq_eq_false_iff_ne, HNF.out]; intro h; exact hf (List.eq_nil_of_length_eq_zero (by omega))
        have HN := hid (show res = none by rw [HR.out, ho]; show (if c.funcs = [] then _ else _) = _; rw [if_neg hf])
        clear ho hE hf hT
        go_wp2
        go_ret
        exact tk_fail HN.out HX5.out.kp
end Go.Proofs.YtiicdknmoakocaaDoor
