/-
  Package report: what a crash's text is read as: the plain laws. No condition.
-/
import Derived.Test.YtiicdknmoakocaaRepN
import Derived.Lib.Strings
import Derived.Lib.IndexMore
import Derived.Lib.IndexBytes
namespace Go.Proofs.Ytiicdknmoakocaa
open Go.RowKit
set_option linter.unusedVariables false
set_option linter.unusedSimpArgs false

/-- A panic that can be read back: a number, or a text that is not long. -/
def okR (p : PanicM) : Prop := okI p.val.n ∧ (p.val.k = 1 ∨ (p.val.k = 3 ∧ p.val.s.size ≤ 100))
def bodyM (p : PanicM) : List UInt8 := rtextM p.val.k p.val.n p.val.s
def tailM (p : PanicM) : List UInt8 := if p.rcd then recB else []
def lineM (p : PanicM) : List UInt8 := panicB ++ (bodyM p ++ tailM p)
theorem pnc_line (p : PanicM) : pncM p = lineM p ++ [10] := by unfold pncM lineM bodyM tailM; simp
/-- What is left behind k rows. -/
def restM (l : List PanicM) (k : Nat) : List UInt8 := if k = 0 then crashM l else ((l.drop k).map fun p => 9 :: pncM p).flatten
def tabM (k : Nat) : List UInt8 := if k = 0 then [] else [9]
theorem prest_at {l : List PanicM} {k : Nat} {p : PanicM} (h : l[k]? = some p) : restM l k = (tabM k ++ lineM p) ++ (10 :: restM l (k + 1)) := by
  obtain ⟨hk, hp⟩ := List.getElem?_eq_some_iff.1 h
  unfold restM tabM
  rw [if_neg (show ¬ k + 1 = 0 by omega)]
  by_cases h0 : k = 0
  · subst h0
    rw [if_pos rfl, if_pos rfl]
    cases l with
    | nil => simp at h
    | cons q l =>
      simp at h
      subst h
      show pncM q ++ (l.map fun p => 9 :: pncM p).flatten = _
      rw [pnc_line]
      simp
  · rw [if_neg h0, if_neg h0, List.drop_eq_getElem_cons hk, hp, List.map_cons, List.flatten_cons, pnc_line]
    simp
theorem prest_end (l : List PanicM) : restM l l.length = [] := by
  unfold restM
  split
  · rename_i h
    rw [List.length_eq_zero_iff] at h
    subst h; rfl
  · rw [List.drop_length]; rfl
theorem prest_ne {l : List PanicM} {k : Nat} (h : k < l.length) : restM l k ≠ [] := by
  rw [prest_at (List.getElem?_eq_getElem h)]
  simp
theorem line_ne {p : PanicM} (k : Nat) (h : okI p.val.n) : (10 : UInt8) ∉ tabM k ++ lineM p := by
  intro hm
  unfold lineM tailM bodyM tabM at hm
  rcases List.mem_append.1 hm with h1 | h1
  · split at h1
    · simp at h1
    · exact absurd h1 (by decide)
  rcases List.mem_append.1 h1 with h1 | h1
  · exact absurd h1 (by decide)
  rcases List.mem_append.1 h1 with h1 | h1
  · exact rtext_ne _ _ _ h h1
  · split at h1
    · exact absurd h1 (by decide)
    · simp at h1
/-! ### cuts -/
theorem indexByte_app : ∀ (a : List UInt8) (c : UInt8) (r : List UInt8), c ∉ a → Lib.indexByte (a ++ c :: r) c = a.length
  | [], c, r, _ => by simp [Lib.indexByte]
  | b :: a, c, r, h => by
    rw [List.mem_cons, not_or] at h
    have ih := indexByte_app a c r h.2
    have hb : (b == c) = false := by rw [beq_eq_false_iff_ne]; exact fun e => h.1 e.symm
    rw [List.cons_append]
    unfold Lib.indexByte
    simp only [hb, ih]
    simp
theorem cut_app (a r : List UInt8) (c : UInt8) (h : c ∉ a) : Lib.cut (a ++ c :: r) [c] = (a, r, true) := by
  unfold Lib.cut
  rw [Lib.index_one, indexByte_app a c r h, if_pos (by omega)]
  simp
theorem pre_hit (p x : List UInt8) : Lib.hasPrefix (p ++ x) p = true ∧ Lib.trimPrefix (p ++ x) p = x := by
  have h : Lib.hasPrefix (p ++ x) p = true := by
    unfold Lib.hasPrefix
    rw [List.isPrefixOf_iff_prefix]
    exact List.prefix_append _ _
  exact ⟨h, by unfold Lib.trimPrefix; rw [if_pos h]; simp⟩
theorem suf_hit (x p : List UInt8) : Lib.hasSuffix (x ++ p) p = true ∧ Lib.trimSuffix (x ++ p) p = x := by
  have h : Lib.hasSuffix (x ++ p) p = true := by
    unfold Lib.hasSuffix
    rw [List.isSuffixOf_iff_suffix]
    exact List.suffix_append _ _
  exact ⟨h, by unfold Lib.trimSuffix; rw [if_pos h]; simp⟩
theorem suf_miss {x p : List UInt8} (h : x.getLast? ≠ p.getLast?) (hp : p ≠ []) : Lib.hasSuffix x p = false ∧ Lib.trimSuffix x p = x := by
  have h1 : Lib.hasSuffix x p = false := by
    unfold Lib.hasSuffix
    rw [Bool.eq_false_iff]
    intro hs
    rw [List.isSuffixOf_iff_suffix] at hs
    obtain ⟨t, rfl⟩ := hs
    apply h
    rw [List.getLast?_append]
    cases hq : p.getLast? with
    | none => rw [List.getLast?_eq_none_iff] at hq; exact absurd hq hp
    | some a => rfl
  exact ⟨h1, by unfold Lib.trimSuffix; rw [if_neg (by rw [h1]; simp)]⟩
theorem itoa_last (n : Int) (h : okI n) : ∃ b, (Lib.itoa n).getLast? = some b ∧ b.toNat ≤ 57 := by
  have hd : ∀ u, u < 10 ^ 20 → ∃ b, (Lib.decDigits u).getLast? = some b ∧ b.toNat ≤ 57 := by
    intro u hu
    cases hq : (Lib.decDigits u).getLast? with
    | none => rw [List.getLast?_eq_none_iff] at hq; have := dec_pos u; rw [hq] at this; simp at this
    | some b => exact ⟨b, rfl, (dec_digit 19 u hu b (List.mem_of_getLast? hq)).2⟩
  unfold okI at h
  unfold Lib.itoa
  split
  · obtain ⟨b, hb, hb2⟩ := hd n.natAbs (by omega)
    exact ⟨b, by rw [List.getLast?_cons, hb]; rfl, hb2⟩
  · exact hd n.toNat (by omega)
theorem body_last (p : PanicM) (h : okR p) : (bodyM p).getLast? ≠ recB.getLast? := by
  have e : recB.getLast? = some 93 := rfl
  rw [e]
  unfold bodyM rtextM
  rcases h.2 with h1 | ⟨h1, _⟩
  · rw [if_pos h1]
    obtain ⟨b, hb, hb2⟩ := itoa_last p.val.n h.1
    rw [hb]
    intro he
    injection he with he
    subst he
    exact absurd hb2 (by decide)
  · rw [h1, if_neg (by decide), if_pos rfl, List.getLast?_cons, List.getLast?_append]
    show some (34 : UInt8) ≠ some 93
    decide
/-- The mark behind a panic's value. -/
theorem body_cut (p : PanicM) (h : okR p) : Lib.hasSuffix (bodyM p ++ tailM p) recB = p.rcd ∧ Lib.trimSuffix (bodyM p ++ tailM p) recB = bodyM p := by
  unfold tailM
  cases p.rcd
  · simp only [Bool.false_eq_true, if_false, List.append_nil]
    exact suf_miss (body_last p h) (by decide)
  · simp only [if_true]
    exact suf_hit _ _
/-! ### what is read -/
def mendT (s : ByteArray) : ByteArray := ⟨(s.data.toList.map (mendB [10, 9])).toArray⟩
def backV (v : ValM) : ValM := if v.k = 1 then ⟨1, v.n, ⟨#[]⟩, []⟩ else ⟨3, 0, mendT v.s, []⟩
def backP (i : Nat) (p : PanicM) : PanicM := ⟨i, backV p.val, p.rcd, false⟩
def backL (l : List PanicM) : List PanicM := l.mapIdx backP
theorem back_len (l : List PanicM) : (backL l).length = l.length := by unfold backL; simp
theorem back_at {l : List PanicM} {i : Nat} {p : PanicM} (h : l[i]? = some p) : (backL l)[i]? = some (backP i p) := by
  unfold backL
  rw [List.getElem?_mapIdx, h]; rfl
theorem back_take {l : List PanicM} {k : Nat} {p : PanicM} (h : l[k]? = some p) : backL (l.take (k + 1)) = backL (l.take k) ++ [backP k p] := by
  have hk := (List.getElem?_eq_some_iff.1 h).1
  have hl : (l.take k).length = k := by rw [List.length_take]; omega
  unfold backL
  rw [List.take_add_one, h]
  show (l.take k ++ [p]).mapIdx backP = _
  rw [List.mapIdx_concat, hl]
theorem mend_twiceB : ∀ n, n < 256 → mendB [10, 9] (mendB [10, 9] (UInt8.ofNat n)) = mendB [10, 9] (UInt8.ofNat n) := by decide +kernel
theorem mend_twice (l : List UInt8) : (l.map (mendB [10, 9])).map (mendB [10, 9]) = l.map (mendB [10, 9]) := by
  rw [List.map_map]
  apply List.map_congr_left
  intro c _
  have h := mend_twiceB c.toNat (UInt8.toNat_lt c)
  rw [UInt8.ofNat_toNat] at h
  exact h
theorem back_text (p : PanicM) (i : Nat) (h : okR p) : bodyM (backP i p) = bodyM p := by
  unfold bodyM backP backV
  rcases h.2 with h1 | ⟨h1, _⟩
  · rw [if_pos h1, h1]; rfl
  · rw [if_neg (by rw [h1]; decide), h1]
    show rtextM 3 0 (mendT p.val.s) = rtextM 3 p.val.n p.val.s
    unfold rtextM mendT
    rw [if_neg (by decide), if_pos rfl, if_neg (by decide), if_pos rfl]
    show 34 :: (escs ((p.val.s.data.toList.map (mendB [10, 9])).map (mendB [10, 9])) ++ [34]) = _
    rw [mend_twice]
theorem back_pnc (p : PanicM) (i : Nat) (h : okR p) : pncM (backP i p) = pncM p := by
  rw [pnc_line, pnc_line]
  unfold lineM
  rw [back_text p i h]; rfl
def joinP : List (List UInt8) → List UInt8
  | [] => []
  | x :: r => x ++ (r.map fun y => 9 :: y).flatten
theorem crash_join (l : List PanicM) : crashM l = joinP (l.map pncM) := by
  cases l with
  | nil => rfl
  | cons p l =>
    show pncM p ++ (l.map fun p => 9 :: pncM p).flatten = pncM p ++ ((l.map pncM).map fun y => 9 :: y).flatten
    rw [List.map_map]; rfl
theorem back_crash (l : List PanicM) (h : ∀ p ∈ l, okR p) : crashM (backL l) = crashM l := by
  rw [crash_join, crash_join]
  congr 1
  apply List.ext_getElem?
  intro i
  rw [List.getElem?_map, List.getElem?_map]
  cases hp : l[i]? with
  | none =>
    have : (backL l)[i]? = none := by
      rw [List.getElem?_eq_none_iff] at hp ⊢
      rw [back_len]; exact hp
    rw [this]
  | some p =>
    rw [back_at hp]
    exact congrArg some (back_pnc p i (h p (List.mem_of_getElem? hp)))
theorem itoa_head (n : Int) (h : okI n) : (Lib.itoa n)[0]? ≠ some 34 := by
  have hd : ∀ u, u < 10 ^ 20 → (Lib.decDigits u)[0]? ≠ some 34 := by
    intro u hu he
    have := (dec_digit 19 u hu 34 (List.mem_of_getElem? he)).1
    exact absurd this (by decide)
  unfold okI at h
  unfold Lib.itoa
  split
  · simp
  · exact hd n.toNat (by omega)
theorem quoted_nonum (l : List UInt8) : NoNum ⟨(34 :: l).toArray⟩ := by
  intro n h1
  rw [ByteArray.toList_eq, beq_eq_false_iff_ne]
  intro he
  apply itoa_head n h1
  rw [he]; rfl
end Go.Proofs.Ytiicdknmoakocaa
