/-
  Package scan: token. Condition: a source of at most 8000 bytes.
-/
import Derived.Test.YtgonekmmbeedeaaScanE
import Derived.Test.YtgonekmmbeedeaaRegionL
namespace Go.Proofs.Ytgonekmmbeedeaa
open Go.RowKit
set_option linter.unusedVariables false
set_option linter.unusedSimpArgs false

set_option maxRecDepth 20000 in
theorem has2_any (s : ByteArray) (w : World) : Calls Try.prog 75 #[.string s, .string ⟨#[47, 47]⟩] w fun e w' => e = .returned (.bool (s.data.toList.take 2 == [47, 47])) ∧ w = w' := by
  by_cases h2 : 2 ≤ s.size
  · have i0 : (2 : Int) ≤ (s.size : Int) := by omega
    obtain ⟨t, ht⟩ : ∃ t, s.extract 0 2 = t := ⟨_, rfl⟩
    have hl : s.data.toList.take 2 = t.toList := by rw [← ht, ext_take]
    rw [hl]
    clear hl
    go_enter Try.func75, Try.ntmps75
    go_wp2
    go_ret
    exact ⟨rfl, rfl⟩
  · have i0 : ¬ (2 : Int) ≤ (s.size : Int) := by omega
    have hl : (s.data.toList.take 2 == [47, 47]) = false := by
      rw [beq_eq_false_iff_ne]
      intro e
      have := congrArg List.length e
      rw [List.length_take, Array.length_toList] at this
      have e2 : s.data.size = s.size := rfl
      simp at this; omega
    rw [hl]
    clear hl
    go_enter Try.func75, Try.ntmps75
    go_wp2
    go_ret
    exact ⟨rfl, rfl⟩
section
variable {S : ByteArray} {c : CutM} {b : UInt8} {r : Bs}
/-- The ways of a step, each by its own tests. -/
theorem lex_nl (r : Bs) : lex (10 :: r) = .nl := by unfold lex; dsimp only; rw [if_pos rfl]
theorem lex_blank (r : Bs) (h1 : b ≠ 10) (h2 : b = 32 ∨ b = 9 ∨ b = 13) : lex (b :: r) = .skip 1 := by unfold lex; dsimp only; rw [if_neg h1, if_pos h2]
theorem lex_remark (h1 : b ≠ 10) (h2 : ¬ (b = 32 ∨ b = 9 ∨ b = 13)) (h3 : b = 47 ∧ r.head? = some 47) : lex (b :: r) = .skip (span_ noNl (b :: r)) := by unfold lex; dsimp only; rw [if_neg h1, if_neg h2, if_pos h3]
theorem lex_name (h1 : b ≠ 10) (h2 : ¬ (b = 32 ∨ b = 9 ∨ b = 13)) (h3 : ¬ (b = 47 ∧ r.head? = some 47)) (h4 : letterB b = true) : lex (b :: r) = if 16 < span_ wordB (b :: r) then .bad 7 else .tok (if isWord ((b :: r).take (span_ wordB (b :: r))) then 5 else 1) (span_ wordB (b :: r)) := by unfold lex; dsimp only; rw [if_neg h1, if_neg h2, if_neg h3, if_pos h4]
open Classical in
theorem lex_number (h1 : b ≠ 10) (h2 : ¬ (b = 32 ∨ b = 9 ∨ b = 13)) (h3 : ¬ (b = 47 ∧ r.head? = some 47)) (h4 : letterB b = false) (h5 : digitB b = true) : lex (b :: r) = if NumP ((b :: r).take (span_ wordB (b :: r))) then .tok 2 (span_ wordB (b :: r)) else .bad 3 := by unfold lex; dsimp only; rw [if_neg h1, if_neg h2, if_neg h3, if_neg (by rw [h4]; decide), if_pos h5]
theorem lex_text (r : Bs) : lex (34 :: r) = match txtLen r with | none => .bad 4 | some k => if okText (r.take k) then .tok 3 (k + 2) else .bad 4 := by unfold lex; dsimp only; rw [if_neg (by decide), if_neg (by decide), if_neg (by rintro ⟨h, _⟩; revert h; decide), if_neg (by decide), if_neg (by decide), if_pos rfl]; cases txtLen r <;> rfl
theorem lex_semi (r : Bs) : lex (59 :: r) = .tok 6 1 := by unfold lex; dsimp only; rw [if_neg (by decide), if_neg (by decide), if_neg (by rintro ⟨h, _⟩; revert h; decide), if_neg (by decide), if_neg (by decide), if_neg (by decide), if_pos rfl]
theorem lex_sign (h1 : b ≠ 10) (h2 : ¬ (b = 32 ∨ b = 9 ∨ b = 13)) (h3 : ¬ (b = 47 ∧ r.head? = some 47)) (h4 : letterB b = false) (h5 : digitB b = false) (h6 : b ≠ 34) (h7 : b ≠ 59) : lex (b :: r) = if signLen (b :: r) = 0 then .bad 2 else .tok 4 (signLen (b :: r)) := by unfold lex; dsimp only; rw [if_neg h1, if_neg h2, if_neg h3, if_neg (by rw [h4]; decide), if_neg (by rw [h5]; decide), if_neg h6, if_neg h7]
theorem step_nl (h : restOf S c.pos = 10 :: r) : stepM S c = match lineEndM c with | .ok c => .ok { c with pos := c.pos + 1, line := c.line + 1, col := 1 } | .error e => .error e := by
  unfold stepM; rw [h, lex_nl]; dsimp only; cases lineEndM c <;> rfl
theorem step_blank (h : restOf S c.pos = b :: r) (h1 : b ≠ 10) (h2 : b = 32 ∨ b = 9 ∨ b = 13) : stepM S c = .ok { c with pos := c.pos + 1, col := c.col + 1 } := by
  unfold stepM; rw [h, lex_blank r h1 h2]; rfl
theorem step_remark (h : restOf S c.pos = b :: r) (h1 : b ≠ 10) (h2 : ¬ (b = 32 ∨ b = 9 ∨ b = 13)) (h3 : b = 47 ∧ r.head? = some 47) : stepM S c = .ok { c with pos := c.pos + span_ noNl (restOf S c.pos), col := c.col + (span_ noNl (restOf S c.pos) : Nat) } := by
  unfold stepM; rw [h, lex_remark h1 h2 h3]
theorem step_name (h : restOf S c.pos = b :: r) (h1 : b ≠ 10) (h2 : ¬ (b = 32 ∨ b = 9 ∨ b = 13)) (h3 : ¬ (b = 47 ∧ r.head? = some 47)) (h4 : letterB b = true) : stepM S c = nameM S c := by
  unfold stepM nameM; rw [h, lex_name h1 h2 h3 h4]
  by_cases hh : 16 < span_ wordB (b :: r)
  · rw [if_pos hh, if_pos hh]
  · rw [if_neg hh, if_neg hh]
theorem step_number (h : restOf S c.pos = b :: r) (h1 : b ≠ 10) (h2 : ¬ (b = 32 ∨ b = 9 ∨ b = 13)) (h3 : ¬ (b = 47 ∧ r.head? = some 47)) (h4 : letterB b = false) (h5 : digitB b = true) : stepM S c = numberM S c := by
  unfold stepM numberM; rw [h, lex_number h1 h2 h3 h4 h5]
  by_cases hh : NumP ((b :: r).take (span_ wordB (b :: r)))
  · rw [if_pos hh, if_pos hh]
  · rw [if_neg hh, if_neg hh]
theorem step_text (h : restOf S c.pos = 34 :: r) (hr : r = restOf S (c.pos + 1)) : stepM S c = textM S c := by
  unfold stepM textM; rw [h, ← hr, lex_text]
  cases ht : txtLen r with
  | none => rfl
  | some k =>
    dsimp only
    cases ho : okText (r.take k) <;> rfl
theorem step_semi (h : restOf S c.pos = 59 :: r) : stepM S c = putM c 6 (S.extract c.pos (c.pos + 1)) 1 := by
  unfold stepM; rw [h, lex_semi]
theorem step_sign (h : restOf S c.pos = b :: r) (h1 : b ≠ 10) (h2 : ¬ (b = 32 ∨ b = 9 ∨ b = 13)) (h3 : ¬ (b = 47 ∧ r.head? = some 47)) (h4 : letterB b = false) (h5 : digitB b = false) (h6 : b ≠ 34) (h7 : b ≠ 59) :
    stepM S c = if signLen (restOf S c.pos) = 0 then .error (2, c.line, c.col) else putM c 4 (S.extract c.pos (c.pos + signLen (restOf S c.pos))) (signLen (restOf S c.pos)) := by
  unfold stepM; rw [h, lex_sign h1 h2 h3 h4 h5 h6 h7]
  by_cases hh : signLen (b :: r) = 0
  · rw [if_pos hh, if_pos hh]
  · rw [if_neg hh, if_neg hh]
theorem take2_iff (b : UInt8) (r : Bs) : ((b :: r).take 2 == [47, 47]) = true ↔ (b = 47 ∧ r.head? = some 47) := by
  cases r with
  | nil => simp
  | cons d r => simp
end
theorem has2K (s : ByteArray) (w : World) : Calls Try.prog 75 #[.string s, .string ⟨#[47, 47]⟩] w fun e w' => e = .returned (.bool (s.data.toList.take 2 == [47, 47])) ∧ Kp w w' := (has2_any s w).mono fun e w' ⟨h1, h2⟩ => ⟨h1, by rw [h2]; exact Kp.refl _⟩
set_option maxRecDepth 20000 in
set_option maxHeartbeats 4000000 in
theorem tok14y {W : World} {Q : Exit → Act → World → Prop} {s1 s2 s3 s4 s5 s6 s7 s8 s9 s10 s11 s12 s13 s14 s15 s16 s17 s18 s19 s20 s21 s22 s23 s24 s25 s26 s27 s28 s29 s30 s31 s32 s33 s34 s35 s36 s37 s38 s39 s40 s41 s42 s43 s44 s45 s46 s47 s48 s49 s50 s51 s52 s53 s54 s55 s56 s57 s58 s59 s60 s61 s62 s63 s64 s65 s66 s67 s68 s69 s70 s71 s72 s73 s74 s75 s76 s77 s78 s79 s80 s81 s82 s83 s84 s85 s86 s87 s88 s89 s90 s91 s92 s93 s94 s95 s96 s97 s98 s99 s100 s101 s102 s103 s104 s105 s106 s107 s108 s109 s110 s111 s112 s113 s114 s115 s116 s117 s118 s119 s120 s121 s122 s123 s124 s125 s126 s127 s128 s129 s130 s131 s132 s133 s134 s135 s136 s137 s138 s139 s140 s141 s142 s143 s144 s145 : Value} (S : ByteArray) (cb k : Nat) (b : UInt8) (hcb : cb < W.heap.size) (C0 : W.cell? ⟨cb, 0, none⟩ = some (.string S)) (C1 : W.cell? ⟨cb, 1, none⟩ = some (.int .i64 (k : Int))) (hk : k < S.size) (hb : S[k] = b) (i1 : (k : Int) < (S.size : Int)) (n10 : ((b.toNat : Int) != 10) = true)
    (hE : ∀ u, Kp W u → Q .normal { tmps := #[.pointer (some ⟨cb, 0, none⟩), s1, s2, s3, s4, s5, s6, s7, s8, s9, s10, s11, s12, s13, s14, s15, s16, s17, s18, s19, s20, s21, s22, s23, s24, s25, s26, s27, s28, s29, s30, s31, s32, s33, s34, s35, s36, s37, s38, s39, s40, s41, s42, s43, s44, s45, s46, s47, s48, s49, s50, s51, s52, s53, s54, s55, s56, s57, s58, s59, s60, s61, s62, s63, s64, s65, s66, s67, s68, s69, s70, s71, s72, s73, s74, s75, s76, s77, s78, s79, s80, s81, s82, s83, s84, s85, s86, s87, s88, s89, .pointer (some ⟨cb, 0, none⟩), .pointer (some ⟨cb, 0, none⟩), .pointer (some ⟨cb, 1, none⟩), .int .i64 (k : Int), .pointer (some ⟨cb, 0, none⟩), .pointer (some ⟨cb, 0, none⟩), .pointer (some ⟨cb, 0, none⟩), .string S, .int .i64 (S.size : Int), .bool true, .bool true, .pointer (some ⟨cb, 0, none⟩), .pointer (some ⟨cb, 0, none⟩), .pointer (some ⟨cb, 0, none⟩), .string S, .pointer (some ⟨cb, 0, none⟩), .pointer (some ⟨cb, 0, none⟩), .pointer (some ⟨cb, 1, none⟩), .int .i64 (k : Int), .int .u8 (b.toNat : Int), .bool true, .bool true, s112, s113, s114, s115, s116, s117, s118, s119, s120, s121, s122, s123, s124, s125, s126, s127, s128, s129, s130, s131, s132, s133, s134, s135, s136, s137, s138, s139, s140, s141, s142, s143, s144, s145], defers := [] } u) :
    (Code.region 14 (regArr Try.f62 14) true).wp Try.prog Q { tmps := #[.pointer (some ⟨cb, 0, none⟩), s1, s2, s3, s4, s5, s6, s7, s8, s9, s10, s11, s12, s13, s14, s15, s16, s17, s18, s19, s20, s21, s22, s23, s24, s25, s26, s27, s28, s29, s30, s31, s32, s33, s34, s35, s36, s37, s38, s39, s40, s41, s42, s43, s44, s45, s46, s47, s48, s49, s50, s51, s52, s53, s54, s55, s56, s57, s58, s59, s60, s61, s62, s63, s64, s65, s66, s67, s68, s69, s70, s71, s72, s73, s74, s75, s76, s77, s78, s79, s80, s81, s82, s83, s84, s85, s86, s87, s88, s89, s90, s91, s92, s93, s94, s95, s96, s97, s98, s99, s100, s101, s102, s103, s104, s105, s106, s107, s108, s109, s110, s111, s112, s113, s114, s115, s116, s117, s118, s119, s120, s121, s122, s123, s124, s125, s126, s127, s128, s129, s130, s131, s132, s133, s134, s135, s136, s137, s138, s139, s140, s141, s142, s143, s144, s145], defers := [] } W := by
  simp only [regArr, Try.f62, Option.map_some, Option.getD_some, regOf, if_true, if_false, List.append_nil, List.nil_append, List.toList_toArray, Nat.reduceEqDiff, reduceIte]
  refine wp_region_kp [[], [0], [1], [2], [], [4], [5], [6], [7], [3, 8], [9], [10], [10, 11], [10, 12], [10, 13], [10], [10, 15], [10, 16], [10, 17], [10, 14, 18], [10, 19], [10, 20]] (fun u => Kp W u)
    [fun (y : Value) (u : World) => y = (.pointer (some ⟨cb, 0, none⟩) : Value),
     fun (y : Value) (u : World) => y = (.pointer (some ⟨cb, 0, none⟩) : Value),
     fun (y : Value) (u : World) => y = (.pointer (some ⟨cb, 1, none⟩) : Value),
     fun (y : Value) (u : World) => y = (.int .i64 (k : Int) : Value),
     fun (y : Value) (u : World) => y = (.pointer (some ⟨cb, 0, none⟩) : Value),
     fun (y : Value) (u : World) => y = (.pointer (some ⟨cb, 0, none⟩) : Value),
     fun (y : Value) (u : World) => y = (.pointer (some ⟨cb, 0, none⟩) : Value),
     fun (y : Value) (u : World) => y = (.string S : Value),
     fun (y : Value) (u : World) => y = (.int .i64 (S.size : Int) : Value),
     fun (y : Value) (u : World) => y = (.bool true : Value),
     fun (y : Value) (u : World) => y = (.bool true : Value),
     fun (y : Value) (u : World) => y = (.pointer (some ⟨cb, 0, none⟩) : Value),
     fun (y : Value) (u : World) => y = (.pointer (some ⟨cb, 0, none⟩) : Value),
     fun (y : Value) (u : World) => y = (.pointer (some ⟨cb, 0, none⟩) : Value),
     fun (y : Value) (u : World) => y = (.string S : Value),
     fun (y : Value) (u : World) => y = (.pointer (some ⟨cb, 0, none⟩) : Value),
     fun (y : Value) (u : World) => y = (.pointer (some ⟨cb, 0, none⟩) : Value),
     fun (y : Value) (u : World) => y = (.pointer (some ⟨cb, 1, none⟩) : Value),
     fun (y : Value) (u : World) => y = (.int .i64 (k : Int) : Value),
     fun (y : Value) (u : World) => y = (.int .u8 (b.toNat : Int) : Value),
     fun (y : Value) (u : World) => y = (.bool true : Value),
     fun (y : Value) (u : World) => y = (.bool true : Value)]
    (by kernel_rfl) (by kernel_rfl) (by kernel_rfl) (by kernel_rfl) ((Kp.refl _).drew) (fun _ _ hk h => h.trans hk) ⟨fun _ _ _ _ h => h, fun _ _ _ _ h => h, fun _ _ _ _ h => h, fun _ _ _ _ h => h, fun _ _ _ _ h => h, fun _ _ _ _ h => h, fun _ _ _ _ h => h, fun _ _ _ _ h => h, fun _ _ _ _ h => h, fun _ _ _ _ h => h, fun _ _ _ _ h => h, fun _ _ _ _ h => h, fun _ _ _ _ h => h, fun _ _ _ _ h => h, fun _ _ _ _ h => h, fun _ _ _ _ h => h, fun _ _ _ _ h => h, fun _ _ _ _ h => h, fun _ _ _ _ h => h, fun _ _ _ _ h => h, fun _ _ _ _ h => h, fun _ _ _ _ h => h, trivial⟩ ⟨?sb0, ?sb1, ?sb2, ?sb3, ?sb4, ?sb5, ?sb6, ?sb7, ?sb8, ?sb9, ?sb10, ?sb11, ?sb12, ?sb13, ?sb14, ?sb15, ?sb16, ?sb17, ?sb18, ?sb19, ?sb20, ?sb21, trivial⟩ ?hEb
  case sb0 =>
    refine OpStepK.by_ ?_
    intro a x u ht hs hg hd K hK
    clear hd
    refine OpGoal.live (wanted_free (by kernel_rfl)) ?_
    have e0 : a.eval (Operand.tmp 0) = (.pointer (some ⟨cb, 0, none⟩) : Value) := (ht 0).trans (by kernel_rfl)
    clear ht hs
    refine BigFrame.wp_move _ rfl ?_
    exact hK.out _ _ (Kp.refl _) e0
  case sb1 =>
    refine OpStepK.by_ ?_
    intro a x u ht hs hg hd K hK
    have d0 : (x 0) = .pointer (some ⟨cb, 0, none⟩) := And.left hd
    clear hd
    refine OpGoal.live (wanted_free (by kernel_rfl)) ?_
    have e90 : a.tmps[90]? = some (.pointer (some ⟨cb, 0, none⟩) : Value) := (hs 90).trans (Eq.trans (b := some (x 0)) (by kernel_rfl) (by rw [d0]))
    clear d0
    clear ht hs
    go_simp
    exact hK.out _ _ (Kp.refl _) rfl
  case sb2 =>
    refine OpStepK.by_ ?_
    intro a x u ht hs hg hd K hK
    have d1 : (x 1) = .pointer (some ⟨cb, 0, none⟩) := And.left hd
    clear hd
    refine OpGoal.live (wanted_free (by kernel_rfl)) ?_
    have e91 : a.tmps[91]? = some (.pointer (some ⟨cb, 0, none⟩) : Value) := (hs 91).trans (Eq.trans (b := some (x 1)) (by kernel_rfl) (by rw [d1]))
    clear d1
    clear ht hs
    go_simp
    exact hK.out _ _ (Kp.refl _) rfl
  case sb3 =>
    refine OpStepK.by_ ?_
    intro a x u ht hs hg hd K hK
    have d2 : (x 2) = .pointer (some ⟨cb, 1, none⟩) := And.left hd
    clear hd
    refine OpGoal.live (wanted_free (by kernel_rfl)) ?_
    have e92 : a.tmps[92]? = some (.pointer (some ⟨cb, 1, none⟩) : Value) := (hs 92).trans (Eq.trans (b := some (x 2)) (by kernel_rfl) (by rw [d2]))
    clear d2
    clear ht hs
    have q0 := cell_kp hg hcb C1
    go_simp
    exact hK.out _ _ (Kp.refl _) rfl
  case sb4 =>
    refine OpStepK.by_ ?_
    intro a x u ht hs hg hd K hK
    clear hd
    refine OpGoal.live (wanted_free (by kernel_rfl)) ?_
    have e0 : a.eval (Operand.tmp 0) = (.pointer (some ⟨cb, 0, none⟩) : Value) := (ht 0).trans (by kernel_rfl)
    clear ht hs
    refine BigFrame.wp_move _ rfl ?_
    exact hK.out _ _ (Kp.refl _) e0
  case sb5 =>
    refine OpStepK.by_ ?_
    intro a x u ht hs hg hd K hK
    have d4 : (x 4) = .pointer (some ⟨cb, 0, none⟩) := And.left hd
    clear hd
    refine OpGoal.live (wanted_free (by kernel_rfl)) ?_
    have e94 : a.tmps[94]? = some (.pointer (some ⟨cb, 0, none⟩) : Value) := (hs 94).trans (Eq.trans (b := some (x 4)) (by kernel_rfl) (by rw [d4]))
    clear d4
    clear ht hs
    go_simp
    exact hK.out _ _ (Kp.refl _) rfl
  case sb6 =>
    refine OpStepK.by_ ?_
    intro a x u ht hs hg hd K hK
    have d5 : (x 5) = .pointer (some ⟨cb, 0, none⟩) := And.left hd
    clear hd
    refine OpGoal.live (wanted_free (by kernel_rfl)) ?_
    have e95 : a.tmps[95]? = some (.pointer (some ⟨cb, 0, none⟩) : Value) := (hs 95).trans (Eq.trans (b := some (x 5)) (by kernel_rfl) (by rw [d5]))
    clear d5
    clear ht hs
    go_simp
    exact hK.out _ _ (Kp.refl _) rfl
  case sb7 =>
    refine OpStepK.by_ ?_
    intro a x u ht hs hg hd K hK
    have d6 : (x 6) = .pointer (some ⟨cb, 0, none⟩) := And.left hd
    clear hd
    refine OpGoal.live (wanted_free (by kernel_rfl)) ?_
    have e96 : a.tmps[96]? = some (.pointer (some ⟨cb, 0, none⟩) : Value) := (hs 96).trans (Eq.trans (b := some (x 6)) (by kernel_rfl) (by rw [d6]))
    clear d6
    clear ht hs
    have q0 := cell_kp hg hcb C0
    go_simp
    exact hK.out _ _ (Kp.refl _) rfl
  case sb8 =>
    refine OpStepK.by_ ?_
    intro a x u ht hs hg hd K hK
    have d7 : (x 7) = .string S := And.left hd
    clear hd
    refine OpGoal.live (wanted_free (by kernel_rfl)) ?_
    have e97 : a.tmps[97]? = some (.string S : Value) := (hs 97).trans (Eq.trans (b := some (x 7)) (by kernel_rfl) (by rw [d7]))
    clear d7
    clear ht hs
    go_simp
    exact hK.out _ _ (Kp.refl _) rfl
  case sb9 =>
    refine OpStepK.by_ ?_
    intro a x u ht hs hg hd K hK
    have d3 : (x 3) = .int .i64 (k : Int) := And.left hd
    have d8 : (x 8) = .int .i64 (S.size : Int) := And.left (And.right hd)
    clear hd
    refine OpGoal.live (wanted_free (by kernel_rfl)) ?_
    have e93 : a.tmps[93]? = some (.int .i64 (k : Int) : Value) := (hs 93).trans (Eq.trans (b := some (x 3)) (by kernel_rfl) (by rw [d3]))
    have e98 : a.tmps[98]? = some (.int .i64 (S.size : Int) : Value) := (hs 98).trans (Eq.trans (b := some (x 8)) (by kernel_rfl) (by rw [d8]))
    clear d3 d8
    clear ht hs
    go_simp
    exact hK.out _ _ (Kp.refl _) rfl
  case sb10 =>
    refine OpStepK.by_ ?_
    intro a x u ht hs hg hd K hK
    have d9 : (x 9) = .bool true := And.left hd
    clear hd
    refine OpGoal.live (wanted_free (by kernel_rfl)) ?_
    have e99 : a.eval (Operand.tmp 99) = (.bool true : Value) := (ht 99).trans (Eq.trans (b := x 9) (by kernel_rfl) d9)
    clear d9
    clear ht hs
    refine BigFrame.wp_move _ rfl ?_
    exact hK.out _ _ (Kp.refl _) e99
  case sb11 =>
    refine OpStepK.by_ ?_
    intro a x u ht hs hg hd K hK
    have d10 : (x 10) = .bool true := And.left hd
    clear hd
    refine OpGoal.live (wanted_yes (j := 10) (d := 100) (by kernel_rfl) (by kernel_rfl) ((hs 100).trans (Eq.trans (b := some (x 10)) (by kernel_rfl) (by rw [d10])))) ?_
    have e0 : a.eval (Operand.tmp 0) = (.pointer (some ⟨cb, 0, none⟩) : Value) := (ht 0).trans (by kernel_rfl)
    clear d10
    clear ht hs
    refine BigFrame.wp_move _ rfl ?_
    exact hK.out _ _ (Kp.refl _) e0
  case sb12 =>
    refine OpStepK.by_ ?_
    intro a x u ht hs hg hd K hK
    have d10 : (x 10) = .bool true := And.left hd
    have d11 : (x 11) = .pointer (some ⟨cb, 0, none⟩) := And.left (And.right hd)
    clear hd
    refine OpGoal.live (wanted_yes (j := 10) (d := 100) (by kernel_rfl) (by kernel_rfl) ((hs 100).trans (Eq.trans (b := some (x 10)) (by kernel_rfl) (by rw [d10])))) ?_
    have e101 : a.tmps[101]? = some (.pointer (some ⟨cb, 0, none⟩) : Value) := (hs 101).trans (Eq.trans (b := some (x 11)) (by kernel_rfl) (by rw [d11]))
    clear d10 d11
    clear ht hs
    go_simp
    exact hK.out _ _ (Kp.refl _) rfl
  case sb13 =>
    refine OpStepK.by_ ?_
    intro a x u ht hs hg hd K hK
    have d10 : (x 10) = .bool true := And.left hd
    have d12 : (x 12) = .pointer (some ⟨cb, 0, none⟩) := And.left (And.right hd)
    clear hd
    refine OpGoal.live (wanted_yes (j := 10) (d := 100) (by kernel_rfl) (by kernel_rfl) ((hs 100).trans (Eq.trans (b := some (x 10)) (by kernel_rfl) (by rw [d10])))) ?_
    have e102 : a.tmps[102]? = some (.pointer (some ⟨cb, 0, none⟩) : Value) := (hs 102).trans (Eq.trans (b := some (x 12)) (by kernel_rfl) (by rw [d12]))
    clear d10 d12
    clear ht hs
    go_simp
    exact hK.out _ _ (Kp.refl _) rfl
  case sb14 =>
    refine OpStepK.by_ ?_
    intro a x u ht hs hg hd K hK
    have d10 : (x 10) = .bool true := And.left hd
    have d13 : (x 13) = .pointer (some ⟨cb, 0, none⟩) := And.left (And.right hd)
    clear hd
    refine OpGoal.live (wanted_yes (j := 10) (d := 100) (by kernel_rfl) (by kernel_rfl) ((hs 100).trans (Eq.trans (b := some (x 10)) (by kernel_rfl) (by rw [d10])))) ?_
    have e103 : a.tmps[103]? = some (.pointer (some ⟨cb, 0, none⟩) : Value) := (hs 103).trans (Eq.trans (b := some (x 13)) (by kernel_rfl) (by rw [d13]))
    clear d10 d13
    clear ht hs
    have q0 := cell_kp hg hcb C0
    go_simp
    exact hK.out _ _ (Kp.refl _) rfl
  case sb15 =>
    refine OpStepK.by_ ?_
    intro a x u ht hs hg hd K hK
    have d10 : (x 10) = .bool true := And.left hd
    clear hd
    refine OpGoal.live (wanted_yes (j := 10) (d := 100) (by kernel_rfl) (by kernel_rfl) ((hs 100).trans (Eq.trans (b := some (x 10)) (by kernel_rfl) (by rw [d10])))) ?_
    have e0 : a.eval (Operand.tmp 0) = (.pointer (some ⟨cb, 0, none⟩) : Value) := (ht 0).trans (by kernel_rfl)
    clear d10
    clear ht hs
    refine BigFrame.wp_move _ rfl ?_
    exact hK.out _ _ (Kp.refl _) e0
  case sb16 =>
    refine OpStepK.by_ ?_
    intro a x u ht hs hg hd K hK
    have d10 : (x 10) = .bool true := And.left hd
    have d15 : (x 15) = .pointer (some ⟨cb, 0, none⟩) := And.left (And.right hd)
    clear hd
    refine OpGoal.live (wanted_yes (j := 10) (d := 100) (by kernel_rfl) (by kernel_rfl) ((hs 100).trans (Eq.trans (b := some (x 10)) (by kernel_rfl) (by rw [d10])))) ?_
    have e105 : a.tmps[105]? = some (.pointer (some ⟨cb, 0, none⟩) : Value) := (hs 105).trans (Eq.trans (b := some (x 15)) (by kernel_rfl) (by rw [d15]))
    clear d10 d15
    clear ht hs
    go_simp
    exact hK.out _ _ (Kp.refl _) rfl
  case sb17 =>
    refine OpStepK.by_ ?_
    intro a x u ht hs hg hd K hK
    have d10 : (x 10) = .bool true := And.left hd
    have d16 : (x 16) = .pointer (some ⟨cb, 0, none⟩) := And.left (And.right hd)
    clear hd
    refine OpGoal.live (wanted_yes (j := 10) (d := 100) (by kernel_rfl) (by kernel_rfl) ((hs 100).trans (Eq.trans (b := some (x 10)) (by kernel_rfl) (by rw [d10])))) ?_
    have e106 : a.tmps[106]? = some (.pointer (some ⟨cb, 0, none⟩) : Value) := (hs 106).trans (Eq.trans (b := some (x 16)) (by kernel_rfl) (by rw [d16]))
    clear d10 d16
    clear ht hs
    go_simp
    exact hK.out _ _ (Kp.refl _) rfl
  case sb18 =>
    refine OpStepK.by_ ?_
    intro a x u ht hs hg hd K hK
    have d10 : (x 10) = .bool true := And.left hd
    have d17 : (x 17) = .pointer (some ⟨cb, 1, none⟩) := And.left (And.right hd)
    clear hd
    refine OpGoal.live (wanted_yes (j := 10) (d := 100) (by kernel_rfl) (by kernel_rfl) ((hs 100).trans (Eq.trans (b := some (x 10)) (by kernel_rfl) (by rw [d10])))) ?_
    have e107 : a.tmps[107]? = some (.pointer (some ⟨cb, 1, none⟩) : Value) := (hs 107).trans (Eq.trans (b := some (x 17)) (by kernel_rfl) (by rw [d17]))
    clear d10 d17
    clear ht hs
    have q0 := cell_kp hg hcb C1
    go_simp
    exact hK.out _ _ (Kp.refl _) rfl
  case sb19 =>
    refine OpStepK.by_ ?_
    intro a x u ht hs hg hd K hK
    have d10 : (x 10) = .bool true := And.left hd
    have d14 : (x 14) = .string S := And.left (And.right hd)
    have d18 : (x 18) = .int .i64 (k : Int) := And.left (And.right (And.right hd))
    clear hd
    refine OpGoal.live (wanted_yes (j := 10) (d := 100) (by kernel_rfl) (by kernel_rfl) ((hs 100).trans (Eq.trans (b := some (x 10)) (by kernel_rfl) (by rw [d10])))) ?_
    have e104 : a.tmps[104]? = some (.string S : Value) := (hs 104).trans (Eq.trans (b := some (x 14)) (by kernel_rfl) (by rw [d14]))
    have e108 : a.tmps[108]? = some (.int .i64 (k : Int) : Value) := (hs 108).trans (Eq.trans (b := some (x 18)) (by kernel_rfl) (by rw [d18]))
    clear d10 d14 d18
    clear ht hs
    go_simp
    exact hK.out _ _ (Kp.refl _) rfl
  case sb20 =>
    refine OpStepK.by_ ?_
    intro a x u ht hs hg hd K hK
    have d10 : (x 10) = .bool true := And.left hd
    have d19 : (x 19) = .int .u8 (b.toNat : Int) := And.left (And.right hd)
    clear hd
    refine OpGoal.live (wanted_yes (j := 10) (d := 100) (by kernel_rfl) (by kernel_rfl) ((hs 100).trans (Eq.trans (b := some (x 10)) (by kernel_rfl) (by rw [d10])))) ?_
    have e109 : a.tmps[109]? = some (.int .u8 (b.toNat : Int) : Value) := (hs 109).trans (Eq.trans (b := some (x 19)) (by kernel_rfl) (by rw [d19]))
    clear d10 d19
    clear ht hs
    go_simp
    exact hK.out _ _ (Kp.refl _) rfl
  case sb21 =>
    refine OpStepK.by_ ?_
    intro a x u ht hs hg hd K hK
    have d10 : (x 10) = .bool true := And.left hd
    have d20 : (x 20) = .bool true := And.left (And.right hd)
    clear hd
    refine OpGoal.live (wanted_free (by kernel_rfl)) ?_
    have e100 : a.tmps[100]? = some (.bool true : Value) := (hs 100).trans (Eq.trans (b := some (x 10)) (by kernel_rfl) (by rw [d10]))
    have e110 : a.tmps[110]? = some (.bool true : Value) := (hs 110).trans (Eq.trans (b := some (x 20)) (by kernel_rfl) (by rw [d20]))
    clear d10 d20
    clear ht hs
    go_simp
    exact hK.out _ _ (Kp.refl _) rfl
  intro x u hg he
  have d0 : (x 0) = .pointer (some ⟨cb, 0, none⟩) := And.left he
  have d1 : (x 1) = .pointer (some ⟨cb, 0, none⟩) := And.left (And.right he)
  have d2 : (x 2) = .pointer (some ⟨cb, 1, none⟩) := And.left (And.right (And.right he))
  have d3 : (x 3) = .int .i64 (k : Int) := And.left (And.right (And.right (And.right he)))
  have d4 : (x 4) = .pointer (some ⟨cb, 0, none⟩) := And.left (And.right (And.right (And.right (And.right he))))
  have d5 : (x 5) = .pointer (some ⟨cb, 0, none⟩) := And.left (And.right (And.right (And.right (And.right (And.right he)))))
  have d6 : (x 6) = .pointer (some ⟨cb, 0, none⟩) := And.left (And.right (And.right (And.right (And.right (And.right (And.right he))))))
  have d7 : (x 7) = .string S := And.left (And.right (And.right (And.right (And.right (And.right (And.right (And.right he)))))))
  have d8 : (x 8) = .int .i64 (S.size : Int) := And.left (And.right (And.right (And.right (And.right (And.right (And.right (And.right (And.right he))))))))
  have d9 : (x 9) = .bool true := And.left (And.right (And.right (And.right (And.right (And.right (And.right (And.right (And.right (And.right he)))))))))
  have d10 : (x 10) = .bool true := And.left (And.right (And.right (And.right (And.right (And.right (And.right (And.right (And.right (And.right (And.right he))))))))))
  have d11 : (x 11) = .pointer (some ⟨cb, 0, none⟩) := And.left (And.right (And.right (And.right (And.right (And.right (And.right (And.right (And.right (And.right (And.right (And.right he)))))))))))
  have d12 : (x 12) = .pointer (some ⟨cb, 0, none⟩) := And.left (And.right (And.right (And.right (And.right (And.right (And.right (And.right (And.right (And.right (And.right (And.right (And.right he))))))))))))
  have d13 : (x 13) = .pointer (some ⟨cb, 0, none⟩) := And.left (And.right (And.right (And.right (And.right (And.right (And.right (And.right (And.right (And.right (And.right (And.right (And.right (And.right he)))))))))))))
  have d14 : (x 14) = .string S := And.left (And.right (And.right (And.right (And.right (And.right (And.right (And.right (And.right (And.right (And.right (And.right (And.right (And.right (And.right he))))))))))))))
  have d15 : (x 15) = .pointer (some ⟨cb, 0, none⟩) := And.left (And.right (And.right (And.right (And.right (And.right (And.right (And.right (And.right (And.right (And.right (And.right (And.right (And.right (And.right (And.right he)))))))))))))))
  have d16 : (x 16) = .pointer (some ⟨cb, 0, none⟩) := And.left (And.right (And.right (And.right (And.right (And.right (And.right (And.right (And.right (And.right (And.right (And.right (And.right (And.right (And.right (And.right (And.right he))))))))))))))))
  have d17 : (x 17) = .pointer (some ⟨cb, 1, none⟩) := And.left (And.right (And.right (And.right (And.right (And.right (And.right (And.right (And.right (And.right (And.right (And.right (And.right (And.right (And.right (And.right (And.right (And.right he)))))))))))))))))
  have d18 : (x 18) = .int .i64 (k : Int) := And.left (And.right (And.right (And.right (And.right (And.right (And.right (And.right (And.right (And.right (And.right (And.right (And.right (And.right (And.right (And.right (And.right (And.right (And.right he))))))))))))))))))
  have d19 : (x 19) = .int .u8 (b.toNat : Int) := And.left (And.right (And.right (And.right (And.right (And.right (And.right (And.right (And.right (And.right (And.right (And.right (And.right (And.right (And.right (And.right (And.right (And.right (And.right (And.right he)))))))))))))))))))
  have d20 : (x 20) = .bool true := And.left (And.right (And.right (And.right (And.right (And.right (And.right (And.right (And.right (And.right (And.right (And.right (And.right (And.right (And.right (And.right (And.right (And.right (And.right (And.right (And.right he))))))))))))))))))))
  have d21 : (x 21) = .bool true := And.left (And.right (And.right (And.right (And.right (And.right (And.right (And.right (And.right (And.right (And.right (And.right (And.right (And.right (And.right (And.right (And.right (And.right (And.right (And.right (And.right (And.right he)))))))))))))))))))))
  clear he
  refine ⟨?_⟩
  simp only [putsFrom, Act.put, List.setIfInBounds_toArray, List.set_cons_zero, List.set_cons_succ, Nat.reduceAdd, d0, d1, d2, d3, d4, d5, d6, d7, d8, d9, d10, d11, d12, d13, d14, d15, d16, d17, d18, d19, d20, d21]
  clear d0 d1 d2 d3 d4 d5 d6 d7 d8 d9 d10 d11 d12 d13 d14 d15 d16 d17 d18 d19 d20 d21
  exact hE _ hg
set_option maxRecDepth 20000 in
set_option maxHeartbeats 4000000 in
theorem tok14b {W : World} {Q : Exit → Act → World → Prop} {s1 s2 s3 s4 s5 s6 s7 s8 s9 s10 s11 s12 s13 s14 s15 s16 s17 s18 s19 s20 s21 s22 s23 s24 s25 s26 s27 s28 s29 s30 s31 s32 s33 s34 s35 s36 s37 s38 s39 s40 s41 s42 s43 s44 s45 s46 s47 s48 s49 s50 s51 s52 s53 s54 s55 s56 s57 s58 s59 s60 s61 s62 s63 s64 s65 s66 s67 s68 s69 s70 s71 s72 s73 s74 s75 s76 s77 s78 s79 s80 s81 s82 s83 s84 s85 s86 s87 s88 s89 s90 s91 s92 s93 s94 s95 s96 s97 s98 s99 s100 s101 s102 s103 s104 s105 s106 s107 s108 s109 s110 s111 s112 s113 s114 s115 s116 s117 s118 s119 s120 s121 s122 s123 s124 s125 s126 s127 s128 s129 s130 s131 s132 s133 s134 s135 s136 s137 s138 s139 s140 s141 s142 s143 s144 s145 : Value} (S : ByteArray) (cb k : Nat) (b : UInt8) (hcb : cb < W.heap.size) (C0 : W.cell? ⟨cb, 0, none⟩ = some (.string S)) (C1 : W.cell? ⟨cb, 1, none⟩ = some (.int .i64 (k : Int))) (hk : k < S.size) (hb : S[k] = b) (i1 : (k : Int) < (S.size : Int)) (n10 : ((b.toNat : Int) != 10) = false)
    (hE : ∀ u, Kp W u → Q .normal { tmps := #[.pointer (some ⟨cb, 0, none⟩), s1, s2, s3, s4, s5, s6, s7, s8, s9, s10, s11, s12, s13, s14, s15, s16, s17, s18, s19, s20, s21, s22, s23, s24, s25, s26, s27, s28, s29, s30, s31, s32, s33, s34, s35, s36, s37, s38, s39, s40, s41, s42, s43, s44, s45, s46, s47, s48, s49, s50, s51, s52, s53, s54, s55, s56, s57, s58, s59, s60, s61, s62, s63, s64, s65, s66, s67, s68, s69, s70, s71, s72, s73, s74, s75, s76, s77, s78, s79, s80, s81, s82, s83, s84, s85, s86, s87, s88, s89, .pointer (some ⟨cb, 0, none⟩), .pointer (some ⟨cb, 0, none⟩), .pointer (some ⟨cb, 1, none⟩), .int .i64 (k : Int), .pointer (some ⟨cb, 0, none⟩), .pointer (some ⟨cb, 0, none⟩), .pointer (some ⟨cb, 0, none⟩), .string S, .int .i64 (S.size : Int), .bool true, .bool true, .pointer (some ⟨cb, 0, none⟩), .pointer (some ⟨cb, 0, none⟩), .pointer (some ⟨cb, 0, none⟩), .string S, .pointer (some ⟨cb, 0, none⟩), .pointer (some ⟨cb, 0, none⟩), .pointer (some ⟨cb, 1, none⟩), .int .i64 (k : Int), .int .u8 (b.toNat : Int), .bool false, .bool false, s112, s113, s114, s115, s116, s117, s118, s119, s120, s121, s122, s123, s124, s125, s126, s127, s128, s129, s130, s131, s132, s133, s134, s135, s136, s137, s138, s139, s140, s141, s142, s143, s144, s145], defers := [] } u) :
    (Code.region 14 (regArr Try.f62 14) true).wp Try.prog Q { tmps := #[.pointer (some ⟨cb, 0, none⟩), s1, s2, s3, s4, s5, s6, s7, s8, s9, s10, s11, s12, s13, s14, s15, s16, s17, s18, s19, s20, s21, s22, s23, s24, s25, s26, s27, s28, s29, s30, s31, s32, s33, s34, s35, s36, s37, s38, s39, s40, s41, s42, s43, s44, s45, s46, s47, s48, s49, s50, s51, s52, s53, s54, s55, s56, s57, s58, s59, s60, s61, s62, s63, s64, s65, s66, s67, s68, s69, s70, s71, s72, s73, s74, s75, s76, s77, s78, s79, s80, s81, s82, s83, s84, s85, s86, s87, s88, s89, s90, s91, s92, s93, s94, s95, s96, s97, s98, s99, s100, s101, s102, s103, s104, s105, s106, s107, s108, s109, s110, s111, s112, s113, s114, s115, s116, s117, s118, s119, s120, s121, s122, s123, s124, s125, s126, s127, s128, s129, s130, s131, s132, s133, s134, s135, s136, s137, s138, s139, s140, s141, s142, s143, s144, s145], defers := [] } W := by
  simp only [regArr, Try.f62, Option.map_some, Option.getD_some, regOf, if_true, if_false, List.append_nil, List.nil_append, List.toList_toArray, Nat.reduceEqDiff, reduceIte]
  refine wp_region_kp [[], [0], [1], [2], [], [4], [5], [6], [7], [3, 8], [9], [10], [10, 11], [10, 12], [10, 13], [10], [10, 15], [10, 16], [10, 17], [10, 14, 18], [10, 19], [10, 20]] (fun u => Kp W u)
    [fun (y : Value) (u : World) => y = (.pointer (some ⟨cb, 0, none⟩) : Value),
     fun (y : Value) (u : World) => y = (.pointer (some ⟨cb, 0, none⟩) : Value),
     fun (y : Value) (u : World) => y = (.pointer (some ⟨cb, 1, none⟩) : Value),
     fun (y : Value) (u : World) => y = (.int .i64 (k : Int) : Value),
     fun (y : Value) (u : World) => y = (.pointer (some ⟨cb, 0, none⟩) : Value),
     fun (y : Value) (u : World) => y = (.pointer (some ⟨cb, 0, none⟩) : Value),
     fun (y : Value) (u : World) => y = (.pointer (some ⟨cb, 0, none⟩) : Value),
     fun (y : Value) (u : World) => y = (.string S : Value),
     fun (y : Value) (u : World) => y = (.int .i64 (S.size : Int) : Value),
     fun (y : Value) (u : World) => y = (.bool true : Value),
     fun (y : Value) (u : World) => y = (.bool true : Value),
     fun (y : Value) (u : World) => y = (.pointer (some ⟨cb, 0, none⟩) : Value),
     fun (y : Value) (u : World) => y = (.pointer (some ⟨cb, 0, none⟩) : Value),
     fun (y : Value) (u : World) => y = (.pointer (some ⟨cb, 0, none⟩) : Value),
     fun (y : Value) (u : World) => y = (.string S : Value),
     fun (y : Value) (u : World) => y = (.pointer (some ⟨cb, 0, none⟩) : Value),
     fun (y : Value) (u : World) => y = (.pointer (some ⟨cb, 0, none⟩) : Value),
     fun (y : Value) (u : World) => y = (.pointer (some ⟨cb, 1, none⟩) : Value),
     fun (y : Value) (u : World) => y = (.int .i64 (k : Int) : Value),
     fun (y : Value) (u : World) => y = (.int .u8 (b.toNat : Int) : Value),
     fun (y : Value) (u : World) => y = (.bool false : Value),
     fun (y : Value) (u : World) => y = (.bool false : Value)]
    (by kernel_rfl) (by kernel_rfl) (by kernel_rfl) (by kernel_rfl) ((Kp.refl _).drew) (fun _ _ hk h => h.trans hk) ⟨fun _ _ _ _ h => h, fun _ _ _ _ h => h, fun _ _ _ _ h => h, fun _ _ _ _ h => h, fun _ _ _ _ h => h, fun _ _ _ _ h => h, fun _ _ _ _ h => h, fun _ _ _ _ h => h, fun _ _ _ _ h => h, fun _ _ _ _ h => h, fun _ _ _ _ h => h, fun _ _ _ _ h => h, fun _ _ _ _ h => h, fun _ _ _ _ h => h, fun _ _ _ _ h => h, fun _ _ _ _ h => h, fun _ _ _ _ h => h, fun _ _ _ _ h => h, fun _ _ _ _ h => h, fun _ _ _ _ h => h, fun _ _ _ _ h => h, fun _ _ _ _ h => h, trivial⟩ ⟨?sc0, ?sc1, ?sc2, ?sc3, ?sc4, ?sc5, ?sc6, ?sc7, ?sc8, ?sc9, ?sc10, ?sc11, ?sc12, ?sc13, ?sc14, ?sc15, ?sc16, ?sc17, ?sc18, ?sc19, ?sc20, ?sc21, trivial⟩ ?hEc
  case sc0 =>
    refine OpStepK.by_ ?_
    intro a x u ht hs hg hd K hK
    clear hd
    refine OpGoal.live (wanted_free (by kernel_rfl)) ?_
    have e0 : a.eval (Operand.tmp 0) = (.pointer (some ⟨cb, 0, none⟩) : Value) := (ht 0).trans (by kernel_rfl)
    clear ht hs
    refine BigFrame.wp_move _ rfl ?_
    exact hK.out _ _ (Kp.refl _) e0
  case sc1 =>
    refine OpStepK.by_ ?_
    intro a x u ht hs hg hd K hK
    have d0 : (x 0) = .pointer (some ⟨cb, 0, none⟩) := And.left hd
    clear hd
    refine OpGoal.live (wanted_free (by kernel_rfl)) ?_
    have e90 : a.tmps[90]? = some (.pointer (some ⟨cb, 0, none⟩) : Value) := (hs 90).trans (Eq.trans (b := some (x 0)) (by kernel_rfl) (by rw [d0]))
    clear d0
    clear ht hs
    go_simp
    exact hK.out _ _ (Kp.refl _) rfl
  case sc2 =>
    refine OpStepK.by_ ?_
    intro a x u ht hs hg hd K hK
    have d1 : (x 1) = .pointer (some ⟨cb, 0, none⟩) := And.left hd
    clear hd
    refine OpGoal.live (wanted_free (by kernel_rfl)) ?_
    have e91 : a.tmps[91]? = some (.pointer (some ⟨cb, 0, none⟩) : Value) := (hs 91).trans (Eq.trans (b := some (x 1)) (by kernel_rfl) (by rw [d1]))
    clear d1
    clear ht hs
    go_simp
    exact hK.out _ _ (Kp.refl _) rfl
  case sc3 =>
    refine OpStepK.by_ ?_
    intro a x u ht hs hg hd K hK
    have d2 : (x 2) = .pointer (some ⟨cb, 1, none⟩) := And.left hd
    clear hd
    refine OpGoal.live (wanted_free (by kernel_rfl)) ?_
    have e92 : a.tmps[92]? = some (.pointer (some ⟨cb, 1, none⟩) : Value) := (hs 92).trans (Eq.trans (b := some (x 2)) (by kernel_rfl) (by rw [d2]))
    clear d2
    clear ht hs
    have q0 := cell_kp hg hcb C1
    go_simp
    exact hK.out _ _ (Kp.refl _) rfl
  case sc4 =>
    refine OpStepK.by_ ?_
    intro a x u ht hs hg hd K hK
    clear hd
    refine OpGoal.live (wanted_free (by kernel_rfl)) ?_
    have e0 : a.eval (Operand.tmp 0) = (.pointer (some ⟨cb, 0, none⟩) : Value) := (ht 0).trans (by kernel_rfl)
    clear ht hs
    refine BigFrame.wp_move _ rfl ?_
    exact hK.out _ _ (Kp.refl _) e0
  case sc5 =>
    refine OpStepK.by_ ?_
    intro a x u ht hs hg hd K hK
    have d4 : (x 4) = .pointer (some ⟨cb, 0, none⟩) := And.left hd
    clear hd
    refine OpGoal.live (wanted_free (by kernel_rfl)) ?_
    have e94 : a.tmps[94]? = some (.pointer (some ⟨cb, 0, none⟩) : Value) := (hs 94).trans (Eq.trans (b := some (x 4)) (by kernel_rfl) (by rw [d4]))
    clear d4
    clear ht hs
    go_simp
    exact hK.out _ _ (Kp.refl _) rfl
  case sc6 =>
    refine OpStepK.by_ ?_
    intro a x u ht hs hg hd K hK
    have d5 : (x 5) = .pointer (some ⟨cb, 0, none⟩) := And.left hd
    clear hd
    refine OpGoal.live (wanted_free (by kernel_rfl)) ?_
    have e95 : a.tmps[95]? = some (.pointer (some ⟨cb, 0, none⟩) : Value) := (hs 95).trans (Eq.trans (b := some (x 5)) (by kernel_rfl) (by rw [d5]))
    clear d5
    clear ht hs
    go_simp
    exact hK.out _ _ (Kp.refl _) rfl
  case sc7 =>
    refine OpStepK.by_ ?_
    intro a x u ht hs hg hd K hK
    have d6 : (x 6) = .pointer (some ⟨cb, 0, none⟩) := And.left hd
    clear hd
    refine OpGoal.live (wanted_free (by kernel_rfl)) ?_
    have e96 : a.tmps[96]? = some (.pointer (some ⟨cb, 0, none⟩) : Value) := (hs 96).trans (Eq.trans (b := some (x 6)) (by kernel_rfl) (by rw [d6]))
    clear d6
    clear ht hs
    have q0 := cell_kp hg hcb C0
    go_simp
    exact hK.out _ _ (Kp.refl _) rfl
  case sc8 =>
    refine OpStepK.by_ ?_
    intro a x u ht hs hg hd K hK
    have d7 : (x 7) = .string S := And.left hd
    clear hd
    refine OpGoal.live (wanted_free (by kernel_rfl)) ?_
    have e97 : a.tmps[97]? = some (.string S : Value) := (hs 97).trans (Eq.trans (b := some (x 7)) (by kernel_rfl) (by rw [d7]))
    clear d7
    clear ht hs
    go_simp
    exact hK.out _ _ (Kp.refl _) rfl
  case sc9 =>
    refine OpStepK.by_ ?_
    intro a x u ht hs hg hd K hK
    have d3 : (x 3) = .int .i64 (k : Int) := And.left hd
    have d8 : (x 8) = .int .i64 (S.size : Int) := And.left (And.right hd)
    clear hd
    refine OpGoal.live (wanted_free (by kernel_rfl)) ?_
    have e93 : a.tmps[93]? = some (.int .i64 (k : Int) : Value) := (hs 93).trans (Eq.trans (b := some (x 3)) (by kernel_rfl) (by rw [d3]))
    have e98 : a.tmps[98]? = some (.int .i64 (S.size : Int) : Value) := (hs 98).trans (Eq.trans (b := some (x 8)) (by kernel_rfl) (by rw [d8]))
    clear d3 d8
    clear ht hs
    go_simp
    exact hK.out _ _ (Kp.refl _) rfl
  case sc10 =>
    refine OpStepK.by_ ?_
    intro a x u ht hs hg hd K hK
    have d9 : (x 9) = .bool true := And.left hd
    clear hd
    refine OpGoal.live (wanted_free (by kernel_rfl)) ?_
    have e99 : a.eval (Operand.tmp 99) = (.bool true : Value) := (ht 99).trans (Eq.trans (b := x 9) (by kernel_rfl) d9)
    clear d9
    clear ht hs
    refine BigFrame.wp_move _ rfl ?_
    exact hK.out _ _ (Kp.refl _) e99
  case sc11 =>
    refine OpStepK.by_ ?_
    intro a x u ht hs hg hd K hK
    have d10 : (x 10) = .bool true := And.left hd
    clear hd
    refine OpGoal.live (wanted_yes (j := 10) (d := 100) (by kernel_rfl) (by kernel_rfl) ((hs 100).trans (Eq.trans (b := some (x 10)) (by kernel_rfl) (by rw [d10])))) ?_
    have e0 : a.eval (Operand.tmp 0) = (.pointer (some ⟨cb, 0, none⟩) : Value) := (ht 0).trans (by kernel_rfl)
    clear d10
    clear ht hs
    refine BigFrame.wp_move _ rfl ?_
    exact hK.out _ _ (Kp.refl _) e0
  case sc12 =>
    refine OpStepK.by_ ?_
    intro a x u ht hs hg hd K hK
    have d10 : (x 10) = .bool true := And.left hd
    have d11 : (x 11) = .pointer (some ⟨cb, 0, none⟩) := And.left (And.right hd)
    clear hd
    refine OpGoal.live (wanted_yes (j := 10) (d := 100) (by kernel_rfl) (by kernel_rfl) ((hs 100).trans (Eq.trans (b := some (x 10)) (by kernel_rfl) (by rw [d10])))) ?_
    have e101 : a.tmps[101]? = some (.pointer (some ⟨cb, 0, none⟩) : Value) := (hs 101).trans (Eq.trans (b := some (x 11)) (by kernel_rfl) (by rw [d11]))
    clear d10 d11
    clear ht hs
    go_simp
    exact hK.out _ _ (Kp.refl _) rfl
  case sc13 =>
    refine OpStepK.by_ ?_
    intro a x u ht hs hg hd K hK
    have d10 : (x 10) = .bool true := And.left hd
    have d12 : (x 12) = .pointer (some ⟨cb, 0, none⟩) := And.left (And.right hd)
    clear hd
    refine OpGoal.live (wanted_yes (j := 10) (d := 100) (by kernel_rfl) (by kernel_rfl) ((hs 100).trans (Eq.trans (b := some (x 10)) (by kernel_rfl) (by rw [d10])))) ?_
    have e102 : a.tmps[102]? = some (.pointer (some ⟨cb, 0, none⟩) : Value) := (hs 102).trans (Eq.trans (b := some (x 12)) (by kernel_rfl) (by rw [d12]))
    clear d10 d12
    clear ht hs
    go_simp
    exact hK.out _ _ (Kp.refl _) rfl
  case sc14 =>
    refine OpStepK.by_ ?_
    intro a x u ht hs hg hd K hK
    have d10 : (x 10) = .bool true := And.left hd
    have d13 : (x 13) = .pointer (some ⟨cb, 0, none⟩) := And.left (And.right hd)
    clear hd
    refine OpGoal.live (wanted_yes (j := 10) (d := 100) (by kernel_rfl) (by kernel_rfl) ((hs 100).trans (Eq.trans (b := some (x 10)) (by kernel_rfl) (by rw [d10])))) ?_
    have e103 : a.tmps[103]? = some (.pointer (some ⟨cb, 0, none⟩) : Value) := (hs 103).trans (Eq.trans (b := some (x 13)) (by kernel_rfl) (by rw [d13]))
    clear d10 d13
    clear ht hs
    have q0 := cell_kp hg hcb C0
    go_simp
    exact hK.out _ _ (Kp.refl _) rfl
  case sc15 =>
    refine OpStepK.by_ ?_
    intro a x u ht hs hg hd K hK
    have d10 : (x 10) = .bool true := And.left hd
    clear hd
    refine OpGoal.live (wanted_yes (j := 10) (d := 100) (by kernel_rfl) (by kernel_rfl) ((hs 100).trans (Eq.trans (b := some (x 10)) (by kernel_rfl) (by rw [d10])))) ?_
    have e0 : a.eval (Operand.tmp 0) = (.pointer (some ⟨cb, 0, none⟩) : Value) := (ht 0).trans (by kernel_rfl)
    clear d10
    clear ht hs
    refine BigFrame.wp_move _ rfl ?_
    exact hK.out _ _ (Kp.refl _) e0
  case sc16 =>
    refine OpStepK.by_ ?_
    intro a x u ht hs hg hd K hK
    have d10 : (x 10) = .bool true := And.left hd
    have d15 : (x 15) = .pointer (some ⟨cb, 0, none⟩) := And.left (And.right hd)
    clear hd
    refine OpGoal.live (wanted_yes (j := 10) (d := 100) (by kernel_rfl) (by kernel_rfl) ((hs 100).trans (Eq.trans (b := some (x 10)) (by kernel_rfl) (by rw [d10])))) ?_
    have e105 : a.tmps[105]? = some (.pointer (some ⟨cb, 0, none⟩) : Value) := (hs 105).trans (Eq.trans (b := some (x 15)) (by kernel_rfl) (by rw [d15]))
    clear d10 d15
    clear ht hs
    go_simp
    exact hK.out _ _ (Kp.refl _) rfl
  case sc17 =>
    refine OpStepK.by_ ?_
    intro a x u ht hs hg hd K hK
    have d10 : (x 10) = .bool true := And.left hd
    have d16 : (x 16) = .pointer (some ⟨cb, 0, none⟩) := And.left (And.right hd)
    clear hd
    refine OpGoal.live (wanted_yes (j := 10) (d := 100) (by kernel_rfl) (by kernel_rfl) ((hs 100).trans (Eq.trans (b := some (x 10)) (by kernel_rfl) (by rw [d10])))) ?_
    have e106 : a.tmps[106]? = some (.pointer (some ⟨cb, 0, none⟩) : Value) := (hs 106).trans (Eq.trans (b := some (x 16)) (by kernel_rfl) (by rw [d16]))
    clear d10 d16
    clear ht hs
    go_simp
    exact hK.out _ _ (Kp.refl _) rfl
  case sc18 =>
    refine OpStepK.by_ ?_
    intro a x u ht hs hg hd K hK
    have d10 : (x 10) = .bool true := And.left hd
    have d17 : (x 17) = .pointer (some ⟨cb, 1, none⟩) := And.left (And.right hd)
    clear hd
    refine OpGoal.live (wanted_yes (j := 10) (d := 100) (by kernel_rfl) (by kernel_rfl) ((hs 100).trans (Eq.trans (b := some (x 10)) (by kernel_rfl) (by rw [d10])))) ?_
    have e107 : a.tmps[107]? = some (.pointer (some ⟨cb, 1, none⟩) : Value) := (hs 107).trans (Eq.trans (b := some (x 17)) (by kernel_rfl) (by rw [d17]))
    clear d10 d17
    clear ht hs
    have q0 := cell_kp hg hcb C1
    go_simp
    exact hK.out _ _ (Kp.refl _) rfl
  case sc19 =>
    refine OpStepK.by_ ?_
    intro a x u ht hs hg hd K hK
    have d10 : (x 10) = .bool true := And.left hd
    have d14 : (x 14) = .string S := And.left (And.right hd)
    have d18 : (x 18) = .int .i64 (k : Int) := And.left (And.right (And.right hd))
    clear hd
    refine OpGoal.live (wanted_yes (j := 10) (d := 100) (by kernel_rfl) (by kernel_rfl) ((hs 100).trans (Eq.trans (b := some (x 10)) (by kernel_rfl) (by rw [d10])))) ?_
    have e104 : a.tmps[104]? = some (.string S : Value) := (hs 104).trans (Eq.trans (b := some (x 14)) (by kernel_rfl) (by rw [d14]))
    have e108 : a.tmps[108]? = some (.int .i64 (k : Int) : Value) := (hs 108).trans (Eq.trans (b := some (x 18)) (by kernel_rfl) (by rw [d18]))
    clear d10 d14 d18
    clear ht hs
    go_simp
    exact hK.out _ _ (Kp.refl _) rfl
  case sc20 =>
    refine OpStepK.by_ ?_
    intro a x u ht hs hg hd K hK
    have d10 : (x 10) = .bool true := And.left hd
    have d19 : (x 19) = .int .u8 (b.toNat : Int) := And.left (And.right hd)
    clear hd
    refine OpGoal.live (wanted_yes (j := 10) (d := 100) (by kernel_rfl) (by kernel_rfl) ((hs 100).trans (Eq.trans (b := some (x 10)) (by kernel_rfl) (by rw [d10])))) ?_
    have e109 : a.tmps[109]? = some (.int .u8 (b.toNat : Int) : Value) := (hs 109).trans (Eq.trans (b := some (x 19)) (by kernel_rfl) (by rw [d19]))
    clear d10 d19
    clear ht hs
    go_simp
    exact hK.out _ _ (Kp.refl _) rfl
  case sc21 =>
    refine OpStepK.by_ ?_
    intro a x u ht hs hg hd K hK
    have d10 : (x 10) = .bool true := And.left hd
    have d20 : (x 20) = .bool false := And.left (And.right hd)
    clear hd
    refine OpGoal.live (wanted_free (by kernel_rfl)) ?_
    have e100 : a.tmps[100]? = some (.bool true : Value) := (hs 100).trans (Eq.trans (b := some (x 10)) (by kernel_rfl) (by rw [d10]))
    have e110 : a.tmps[110]? = some (.bool false : Value) := (hs 110).trans (Eq.trans (b := some (x 20)) (by kernel_rfl) (by rw [d20]))
    clear d10 d20
    clear ht hs
    go_simp
    exact hK.out _ _ (Kp.refl _) rfl
  intro x u hg he
  have d0 : (x 0) = .pointer (some ⟨cb, 0, none⟩) := And.left he
  have d1 : (x 1) = .pointer (some ⟨cb, 0, none⟩) := And.left (And.right he)
  have d2 : (x 2) = .pointer (some ⟨cb, 1, none⟩) := And.left (And.right (And.right he))
  have d3 : (x 3) = .int .i64 (k : Int) := And.left (And.right (And.right (And.right he)))
  have d4 : (x 4) = .pointer (some ⟨cb, 0, none⟩) := And.left (And.right (And.right (And.right (And.right he))))
  have d5 : (x 5) = .pointer (some ⟨cb, 0, none⟩) := And.left (And.right (And.right (And.right (And.right (And.right he)))))
  have d6 : (x 6) = .pointer (some ⟨cb, 0, none⟩) := And.left (And.right (And.right (And.right (And.right (And.right (And.right he))))))
  have d7 : (x 7) = .string S := And.left (And.right (And.right (And.right (And.right (And.right (And.right (And.right he)))))))
  have d8 : (x 8) = .int .i64 (S.size : Int) := And.left (And.right (And.right (And.right (And.right (And.right (And.right (And.right (And.right he))))))))
  have d9 : (x 9) = .bool true := And.left (And.right (And.right (And.right (And.right (And.right (And.right (And.right (And.right (And.right he)))))))))
  have d10 : (x 10) = .bool true := And.left (And.right (And.right (And.right (And.right (And.right (And.right (And.right (And.right (And.right (And.right he))))))))))
  have d11 : (x 11) = .pointer (some ⟨cb, 0, none⟩) := And.left (And.right (And.right (And.right (And.right (And.right (And.right (And.right (And.right (And.right (And.right (And.right he)))))))))))
  have d12 : (x 12) = .pointer (some ⟨cb, 0, none⟩) := And.left (And.right (And.right (And.right (And.right (And.right (And.right (And.right (And.right (And.right (And.right (And.right (And.right he))))))))))))
  have d13 : (x 13) = .pointer (some ⟨cb, 0, none⟩) := And.left (And.right (And.right (And.right (And.right (And.right (And.right (And.right (And.right (And.right (And.right (And.right (And.right (And.right he)))))))))))))
  have d14 : (x 14) = .string S := And.left (And.right (And.right (And.right (And.right (And.right (And.right (And.right (And.right (And.right (And.right (And.right (And.right (And.right (And.right he))))))))))))))
  have d15 : (x 15) = .pointer (some ⟨cb, 0, none⟩) := And.left (And.right (And.right (And.right (And.right (And.right (And.right (And.right (And.right (And.right (And.right (And.right (And.right (And.right (And.right (And.right he)))))))))))))))
  have d16 : (x 16) = .pointer (some ⟨cb, 0, none⟩) := And.left (And.right (And.right (And.right (And.right (And.right (And.right (And.right (And.right (And.right (And.right (And.right (And.right (And.right (And.right (And.right (And.right he))))))))))))))))
  have d17 : (x 17) = .pointer (some ⟨cb, 1, none⟩) := And.left (And.right (And.right (And.right (And.right (And.right (And.right (And.right (And.right (And.right (And.right (And.right (And.right (And.right (And.right (And.right (And.right (And.right he)))))))))))))))))
  have d18 : (x 18) = .int .i64 (k : Int) := And.left (And.right (And.right (And.right (And.right (And.right (And.right (And.right (And.right (And.right (And.right (And.right (And.right (And.right (And.right (And.right (And.right (And.right (And.right he))))))))))))))))))
  have d19 : (x 19) = .int .u8 (b.toNat : Int) := And.left (And.right (And.right (And.right (And.right (And.right (And.right (And.right (And.right (And.right (And.right (And.right (And.right (And.right (And.right (And.right (And.right (And.right (And.right (And.right he)))))))))))))))))))
  have d20 : (x 20) = .bool false := And.left (And.right (And.right (And.right (And.right (And.right (And.right (And.right (And.right (And.right (And.right (And.right (And.right (And.right (And.right (And.right (And.right (And.right (And.right (And.right (And.right he))))))))))))))))))))
  have d21 : (x 21) = .bool false := And.left (And.right (And.right (And.right (And.right (And.right (And.right (And.right (And.right (And.right (And.right (And.right (And.right (And.right (And.right (And.right (And.right (And.right (And.right (And.right (And.right (And.right he)))))))))))))))))))))
  clear he
  refine ⟨?_⟩
  simp only [putsFrom, Act.put, List.setIfInBounds_toArray, List.set_cons_zero, List.set_cons_succ, Nat.reduceAdd, d0, d1, d2, d3, d4, d5, d6, d7, d8, d9, d10, d11, d12, d13, d14, d15, d16, d17, d18, d19, d20, d21]
  clear d0 d1 d2 d3 d4 d5 d6 d7 d8 d9 d10 d11 d12 d13 d14 d15 d16 d17 d18 d19 d20 d21
  exact hE _ hg
set_option maxRecDepth 20000 in
set_option maxHeartbeats 4000000 in
theorem tok14e {W : World} {Q : Exit → Act → World → Prop} {s1 s2 s3 s4 s5 s6 s7 s8 s9 s10 s11 s12 s13 s14 s15 s16 s17 s18 s19 s20 s21 s22 s23 s24 s25 s26 s27 s28 s29 s30 s31 s32 s33 s34 s35 s36 s37 s38 s39 s40 s41 s42 s43 s44 s45 s46 s47 s48 s49 s50 s51 s52 s53 s54 s55 s56 s57 s58 s59 s60 s61 s62 s63 s64 s65 s66 s67 s68 s69 s70 s71 s72 s73 s74 s75 s76 s77 s78 s79 s80 s81 s82 s83 s84 s85 s86 s87 s88 s89 s90 s91 s92 s93 s94 s95 s96 s97 s98 s99 s100 s101 s102 s103 s104 s105 s106 s107 s108 s109 s110 s111 s112 s113 s114 s115 s116 s117 s118 s119 s120 s121 s122 s123 s124 s125 s126 s127 s128 s129 s130 s131 s132 s133 s134 s135 s136 s137 s138 s139 s140 s141 s142 s143 s144 s145 : Value} (S : ByteArray) (cb k : Nat) (hcb : cb < W.heap.size) (C0 : W.cell? ⟨cb, 0, none⟩ = some (.string S)) (C1 : W.cell? ⟨cb, 1, none⟩ = some (.int .i64 (k : Int))) (i1 : ¬ (k : Int) < (S.size : Int))
    (hE : ∀ u, Kp W u → Q .normal { tmps := #[.pointer (some ⟨cb, 0, none⟩), s1, s2, s3, s4, s5, s6, s7, s8, s9, s10, s11, s12, s13, s14, s15, s16, s17, s18, s19, s20, s21, s22, s23, s24, s25, s26, s27, s28, s29, s30, s31, s32, s33, s34, s35, s36, s37, s38, s39, s40, s41, s42, s43, s44, s45, s46, s47, s48, s49, s50, s51, s52, s53, s54, s55, s56, s57, s58, s59, s60, s61, s62, s63, s64, s65, s66, s67, s68, s69, s70, s71, s72, s73, s74, s75, s76, s77, s78, s79, s80, s81, s82, s83, s84, s85, s86, s87, s88, s89, .pointer (some ⟨cb, 0, none⟩), .pointer (some ⟨cb, 0, none⟩), .pointer (some ⟨cb, 1, none⟩), .int .i64 (k : Int), .pointer (some ⟨cb, 0, none⟩), .pointer (some ⟨cb, 0, none⟩), .pointer (some ⟨cb, 0, none⟩), .string S, .int .i64 (S.size : Int), .bool false, .bool false, undef, undef, undef, undef, undef, undef, undef, undef, undef, undef, .bool false, s112, s113, s114, s115, s116, s117, s118, s119, s120, s121, s122, s123, s124, s125, s126, s127, s128, s129, s130, s131, s132, s133, s134, s135, s136, s137, s138, s139, s140, s141, s142, s143, s144, s145], defers := [] } u) :
    (Code.region 14 (regArr Try.f62 14) true).wp Try.prog Q { tmps := #[.pointer (some ⟨cb, 0, none⟩), s1, s2, s3, s4, s5, s6, s7, s8, s9, s10, s11, s12, s13, s14, s15, s16, s17, s18, s19, s20, s21, s22, s23, s24, s25, s26, s27, s28, s29, s30, s31, s32, s33, s34, s35, s36, s37, s38, s39, s40, s41, s42, s43, s44, s45, s46, s47, s48, s49, s50, s51, s52, s53, s54, s55, s56, s57, s58, s59, s60, s61, s62, s63, s64, s65, s66, s67, s68, s69, s70, s71, s72, s73, s74, s75, s76, s77, s78, s79, s80, s81, s82, s83, s84, s85, s86, s87, s88, s89, s90, s91, s92, s93, s94, s95, s96, s97, s98, s99, s100, s101, s102, s103, s104, s105, s106, s107, s108, s109, s110, s111, s112, s113, s114, s115, s116, s117, s118, s119, s120, s121, s122, s123, s124, s125, s126, s127, s128, s129, s130, s131, s132, s133, s134, s135, s136, s137, s138, s139, s140, s141, s142, s143, s144, s145], defers := [] } W := by
  simp only [regArr, Try.f62, Option.map_some, Option.getD_some, regOf, if_true, if_false, List.append_nil, List.nil_append, List.toList_toArray, Nat.reduceEqDiff, reduceIte]
  refine wp_region_kp [[], [0], [1], [2], [], [4], [5], [6], [7], [3, 8], [9], [10], [10, 11], [10, 12], [10, 13], [10], [10, 15], [10, 16], [10, 17], [10, 14, 18], [10, 19], [10, 20]] (fun u => Kp W u)
    [fun (y : Value) (u : World) => y = (.pointer (some ⟨cb, 0, none⟩) : Value),
     fun (y : Value) (u : World) => y = (.pointer (some ⟨cb, 0, none⟩) : Value),
     fun (y : Value) (u : World) => y = (.pointer (some ⟨cb, 1, none⟩) : Value),
     fun (y : Value) (u : World) => y = (.int .i64 (k : Int) : Value),
     fun (y : Value) (u : World) => y = (.pointer (some ⟨cb, 0, none⟩) : Value),
     fun (y : Value) (u : World) => y = (.pointer (some ⟨cb, 0, none⟩) : Value),
     fun (y : Value) (u : World) => y = (.pointer (some ⟨cb, 0, none⟩) : Value),
     fun (y : Value) (u : World) => y = (.string S : Value),
     fun (y : Value) (u : World) => y = (.int .i64 (S.size : Int) : Value),
     fun (y : Value) (u : World) => y = (.bool false : Value),
     fun (y : Value) (u : World) => y = (.bool false : Value),
     fun (y : Value) (u : World) => y = (undef : Value),
     fun (y : Value) (u : World) => y = (undef : Value),
     fun (y : Value) (u : World) => y = (undef : Value),
     fun (y : Value) (u : World) => y = (undef : Value),
     fun (y : Value) (u : World) => y = (undef : Value),
     fun (y : Value) (u : World) => y = (undef : Value),
     fun (y : Value) (u : World) => y = (undef : Value),
     fun (y : Value) (u : World) => y = (undef : Value),
     fun (y : Value) (u : World) => y = (undef : Value),
     fun (y : Value) (u : World) => y = (undef : Value),
     fun (y : Value) (u : World) => y = (.bool false : Value)]
    (by kernel_rfl) (by kernel_rfl) (by kernel_rfl) (by kernel_rfl) ((Kp.refl _).drew) (fun _ _ hk h => h.trans hk) ⟨fun _ _ _ _ h => h, fun _ _ _ _ h => h, fun _ _ _ _ h => h, fun _ _ _ _ h => h, fun _ _ _ _ h => h, fun _ _ _ _ h => h, fun _ _ _ _ h => h, fun _ _ _ _ h => h, fun _ _ _ _ h => h, fun _ _ _ _ h => h, fun _ _ _ _ h => h, fun _ _ _ _ h => h, fun _ _ _ _ h => h, fun _ _ _ _ h => h, fun _ _ _ _ h => h, fun _ _ _ _ h => h, fun _ _ _ _ h => h, fun _ _ _ _ h => h, fun _ _ _ _ h => h, fun _ _ _ _ h => h, fun _ _ _ _ h => h, fun _ _ _ _ h => h, trivial⟩ ⟨?sd0, ?sd1, ?sd2, ?sd3, ?sd4, ?sd5, ?sd6, ?sd7, ?sd8, ?sd9, ?sd10, ?sd11, ?sd12, ?sd13, ?sd14, ?sd15, ?sd16, ?sd17, ?sd18, ?sd19, ?sd20, ?sd21, trivial⟩ ?hEd
  case sd0 =>
    refine OpStepK.by_ ?_
    intro a x u ht hs hg hd K hK
    clear hd
    refine OpGoal.live (wanted_free (by kernel_rfl)) ?_
    have e0 : a.eval (Operand.tmp 0) = (.pointer (some ⟨cb, 0, none⟩) : Value) := (ht 0).trans (by kernel_rfl)
    clear ht hs
    refine BigFrame.wp_move _ rfl ?_
    exact hK.out _ _ (Kp.refl _) e0
  case sd1 =>
    refine OpStepK.by_ ?_
    intro a x u ht hs hg hd K hK
    have d0 : (x 0) = .pointer (some ⟨cb, 0, none⟩) := And.left hd
    clear hd
    refine OpGoal.live (wanted_free (by kernel_rfl)) ?_
    have e90 : a.tmps[90]? = some (.pointer (some ⟨cb, 0, none⟩) : Value) := (hs 90).trans (Eq.trans (b := some (x 0)) (by kernel_rfl) (by rw [d0]))
    clear d0
    clear ht hs
    go_simp
    exact hK.out _ _ (Kp.refl _) rfl
  case sd2 =>
    refine OpStepK.by_ ?_
    intro a x u ht hs hg hd K hK
    have d1 : (x 1) = .pointer (some ⟨cb, 0, none⟩) := And.left hd
    clear hd
    refine OpGoal.live (wanted_free (by kernel_rfl)) ?_
    have e91 : a.tmps[91]? = some (.pointer (some ⟨cb, 0, none⟩) : Value) := (hs 91).trans (Eq.trans (b := some (x 1)) (by kernel_rfl) (by rw [d1]))
    clear d1
    clear ht hs
    go_simp
    exact hK.out _ _ (Kp.refl _) rfl
  case sd3 =>
    refine OpStepK.by_ ?_
    intro a x u ht hs hg hd K hK
    have d2 : (x 2) = .pointer (some ⟨cb, 1, none⟩) := And.left hd
    clear hd
    refine OpGoal.live (wanted_free (by kernel_rfl)) ?_
    have e92 : a.tmps[92]? = some (.pointer (some ⟨cb, 1, none⟩) : Value) := (hs 92).trans (Eq.trans (b := some (x 2)) (by kernel_rfl) (by rw [d2]))
    clear d2
    clear ht hs
    have q0 := cell_kp hg hcb C1
    go_simp
    exact hK.out _ _ (Kp.refl _) rfl
  case sd4 =>
    refine OpStepK.by_ ?_
    intro a x u ht hs hg hd K hK
    clear hd
    refine OpGoal.live (wanted_free (by kernel_rfl)) ?_
    have e0 : a.eval (Operand.tmp 0) = (.pointer (some ⟨cb, 0, none⟩) : Value) := (ht 0).trans (by kernel_rfl)
    clear ht hs
    refine BigFrame.wp_move _ rfl ?_
    exact hK.out _ _ (Kp.refl _) e0
  case sd5 =>
    refine OpStepK.by_ ?_
    intro a x u ht hs hg hd K hK
    have d4 : (x 4) = .pointer (some ⟨cb, 0, none⟩) := And.left hd
    clear hd
    refine OpGoal.live (wanted_free (by kernel_rfl)) ?_
    have e94 : a.tmps[94]? = some (.pointer (some ⟨cb, 0, none⟩) : Value) := (hs 94).trans (Eq.trans (b := some (x 4)) (by kernel_rfl) (by rw [d4]))
    clear d4
    clear ht hs
    go_simp
    exact hK.out _ _ (Kp.refl _) rfl
  case sd6 =>
    refine OpStepK.by_ ?_
    intro a x u ht hs hg hd K hK
    have d5 : (x 5) = .pointer (some ⟨cb, 0, none⟩) := And.left hd
    clear hd
    refine OpGoal.live (wanted_free (by kernel_rfl)) ?_
    have e95 : a.tmps[95]? = some (.pointer (some ⟨cb, 0, none⟩) : Value) := (hs 95).trans (Eq.trans (b := some (x 5)) (by kernel_rfl) (by rw [d5]))
    clear d5
    clear ht hs
    go_simp
    exact hK.out _ _ (Kp.refl _) rfl
  case sd7 =>
    refine OpStepK.by_ ?_
    intro a x u ht hs hg hd K hK
    have d6 : (x 6) = .pointer (some ⟨cb, 0, none⟩) := And.left hd
    clear hd
    refine OpGoal.live (wanted_free (by kernel_rfl)) ?_
    have e96 : a.tmps[96]? = some (.pointer (some ⟨cb, 0, none⟩) : Value) := (hs 96).trans (Eq.trans (b := some (x 6)) (by kernel_rfl) (by rw [d6]))
    clear d6
    clear ht hs
    have q0 := cell_kp hg hcb C0
    go_simp
    exact hK.out _ _ (Kp.refl _) rfl
  case sd8 =>
    refine OpStepK.by_ ?_
    intro a x u ht hs hg hd K hK
    have d7 : (x 7) = .string S := And.left hd
    clear hd
    refine OpGoal.live (wanted_free (by kernel_rfl)) ?_
    have e97 : a.tmps[97]? = some (.string S : Value) := (hs 97).trans (Eq.trans (b := some (x 7)) (by kernel_rfl) (by rw [d7]))
    clear d7
    clear ht hs
    go_simp
    exact hK.out _ _ (Kp.refl _) rfl
  case sd9 =>
    refine OpStepK.by_ ?_
    intro a x u ht hs hg hd K hK
    have d3 : (x 3) = .int .i64 (k : Int) := And.left hd
    have d8 : (x 8) = .int .i64 (S.size : Int) := And.left (And.right hd)
    clear hd
    refine OpGoal.live (wanted_free (by kernel_rfl)) ?_
    have e93 : a.tmps[93]? = some (.int .i64 (k : Int) : Value) := (hs 93).trans (Eq.trans (b := some (x 3)) (by kernel_rfl) (by rw [d3]))
    have e98 : a.tmps[98]? = some (.int .i64 (S.size : Int) : Value) := (hs 98).trans (Eq.trans (b := some (x 8)) (by kernel_rfl) (by rw [d8]))
    clear d3 d8
    clear ht hs
    go_simp
    exact hK.out _ _ (Kp.refl _) rfl
  case sd10 =>
    refine OpStepK.by_ ?_
    intro a x u ht hs hg hd K hK
    have d9 : (x 9) = .bool false := And.left hd
    clear hd
    refine OpGoal.live (wanted_free (by kernel_rfl)) ?_
    have e99 : a.eval (Operand.tmp 99) = (.bool false : Value) := (ht 99).trans (Eq.trans (b := x 9) (by kernel_rfl) d9)
    clear d9
    clear ht hs
    refine BigFrame.wp_move _ rfl ?_
    exact hK.out _ _ (Kp.refl _) e99
  case sd11 =>
    refine OpStepK.by_ ?_
    intro a x u ht hs hg hd K hK
    have d10 : (x 10) = .bool false := And.left hd
    clear hd
    refine OpGoal.dead (wanted_no (j := 10) (d := 100) (b := true) (c := false) (by kernel_rfl) (by kernel_rfl) ((hs 100).trans (Eq.trans (b := some (x 10)) (by kernel_rfl) (by rw [d10]))) (by decide)) ?_
    exact hK.out _ _ (Kp.refl _) rfl
  case sd12 =>
    refine OpStepK.by_ ?_
    intro a x u ht hs hg hd K hK
    have d10 : (x 10) = .bool false := And.left hd
    have d11 : (x 11) = undef := And.left (And.right hd)
    clear hd
    refine OpGoal.dead (wanted_no (j := 10) (d := 100) (b := true) (c := false) (by kernel_rfl) (by kernel_rfl) ((hs 100).trans (Eq.trans (b := some (x 10)) (by kernel_rfl) (by rw [d10]))) (by decide)) ?_
    exact hK.out _ _ (Kp.refl _) rfl
  case sd13 =>
    refine OpStepK.by_ ?_
    intro a x u ht hs hg hd K hK
    have d10 : (x 10) = .bool false := And.left hd
    have d12 : (x 12) = undef := And.left (And.right hd)
    clear hd
    refine OpGoal.dead (wanted_no (j := 10) (d := 100) (b := true) (c := false) (by kernel_rfl) (by kernel_rfl) ((hs 100).trans (Eq.trans (b := some (x 10)) (by kernel_rfl) (by rw [d10]))) (by decide)) ?_
    exact hK.out _ _ (Kp.refl _) rfl
  case sd14 =>
    refine OpStepK.by_ ?_
    intro a x u ht hs hg hd K hK
    have d10 : (x 10) = .bool false := And.left hd
    have d13 : (x 13) = undef := And.left (And.right hd)
    clear hd
    refine OpGoal.dead (wanted_no (j := 10) (d := 100) (b := true) (c := false) (by kernel_rfl) (by kernel_rfl) ((hs 100).trans (Eq.trans (b := some (x 10)) (by kernel_rfl) (by rw [d10]))) (by decide)) ?_
    exact hK.out _ _ (Kp.refl _) rfl
  case sd15 =>
    refine OpStepK.by_ ?_
    intro a x u ht hs hg hd K hK
    have d10 : (x 10) = .bool false := And.left hd
    clear hd
    refine OpGoal.dead (wanted_no (j := 10) (d := 100) (b := true) (c := false) (by kernel_rfl) (by kernel_rfl) ((hs 100).trans (Eq.trans (b := some (x 10)) (by kernel_rfl) (by rw [d10]))) (by decide)) ?_
    exact hK.out _ _ (Kp.refl _) rfl
  case sd16 =>
    refine OpStepK.by_ ?_
    intro a x u ht hs hg hd K hK
    have d10 : (x 10) = .bool false := And.left hd
    have d15 : (x 15) = undef := And.left (And.right hd)
    clear hd
    refine OpGoal.dead (wanted_no (j := 10) (d := 100) (b := true) (c := false) (by kernel_rfl) (by kernel_rfl) ((hs 100).trans (Eq.trans (b := some (x 10)) (by kernel_rfl) (by rw [d10]))) (by decide)) ?_
    exact hK.out _ _ (Kp.refl _) rfl
  case sd17 =>
    refine OpStepK.by_ ?_
    intro a x u ht hs hg hd K hK
    have d10 : (x 10) = .bool false := And.left hd
    have d16 : (x 16) = undef := And.left (And.right hd)
    clear hd
    refine OpGoal.dead (wanted_no (j := 10) (d := 100) (b := true) (c := false) (by kernel_rfl) (by kernel_rfl) ((hs 100).trans (Eq.trans (b := some (x 10)) (by kernel_rfl) (by rw [d10]))) (by decide)) ?_
    exact hK.out _ _ (Kp.refl _) rfl
  case sd18 =>
    refine OpStepK.by_ ?_
    intro a x u ht hs hg hd K hK
    have d10 : (x 10) = .bool false := And.left hd
    have d17 : (x 17) = undef := And.left (And.right hd)
    clear hd
    refine OpGoal.dead (wanted_no (j := 10) (d := 100) (b := true) (c := false) (by kernel_rfl) (by kernel_rfl) ((hs 100).trans (Eq.trans (b := some (x 10)) (by kernel_rfl) (by rw [d10]))) (by decide)) ?_
    exact hK.out _ _ (Kp.refl _) rfl
  case sd19 =>
    refine OpStepK.by_ ?_
    intro a x u ht hs hg hd K hK
    have d10 : (x 10) = .bool false := And.left hd
    have d14 : (x 14) = undef := And.left (And.right hd)
    have d18 : (x 18) = undef := And.left (And.right (And.right hd))
    clear hd
    refine OpGoal.dead (wanted_no (j := 10) (d := 100) (b := true) (c := false) (by kernel_rfl) (by kernel_rfl) ((hs 100).trans (Eq.trans (b := some (x 10)) (by kernel_rfl) (by rw [d10]))) (by decide)) ?_
    exact hK.out _ _ (Kp.refl _) rfl
  case sd20 =>
    refine OpStepK.by_ ?_
    intro a x u ht hs hg hd K hK
    have d10 : (x 10) = .bool false := And.left hd
    have d19 : (x 19) = undef := And.left (And.right hd)
    clear hd
    refine OpGoal.dead (wanted_no (j := 10) (d := 100) (b := true) (c := false) (by kernel_rfl) (by kernel_rfl) ((hs 100).trans (Eq.trans (b := some (x 10)) (by kernel_rfl) (by rw [d10]))) (by decide)) ?_
    exact hK.out _ _ (Kp.refl _) rfl
  case sd21 =>
    refine OpStepK.by_ ?_
    intro a x u ht hs hg hd K hK
    have d10 : (x 10) = .bool false := And.left hd
    have d20 : (x 20) = undef := And.left (And.right hd)
    clear hd
    refine OpGoal.live (wanted_free (by kernel_rfl)) ?_
    have e100 : a.tmps[100]? = some (.bool false : Value) := (hs 100).trans (Eq.trans (b := some (x 10)) (by kernel_rfl) (by rw [d10]))
    have e110 : a.tmps[110]? = some (undef : Value) := (hs 110).trans (Eq.trans (b := some (x 20)) (by kernel_rfl) (by rw [d20]))
    clear d10 d20
    clear ht hs
    go_simp
    exact hK.out _ _ (Kp.refl _) rfl
  intro x u hg he
  have d0 : (x 0) = .pointer (some ⟨cb, 0, none⟩) := And.left he
  have d1 : (x 1) = .pointer (some ⟨cb, 0, none⟩) := And.left (And.right he)
  have d2 : (x 2) = .pointer (some ⟨cb, 1, none⟩) := And.left (And.right (And.right he))
  have d3 : (x 3) = .int .i64 (k : Int) := And.left (And.right (And.right (And.right he)))
  have d4 : (x 4) = .pointer (some ⟨cb, 0, none⟩) := And.left (And.right (And.right (And.right (And.right he))))
  have d5 : (x 5) = .pointer (some ⟨cb, 0, none⟩) := And.left (And.right (And.right (And.right (And.right (And.right he)))))
  have d6 : (x 6) = .pointer (some ⟨cb, 0, none⟩) := And.left (And.right (And.right (And.right (And.right (And.right (And.right he))))))
  have d7 : (x 7) = .string S := And.left (And.right (And.right (And.right (And.right (And.right (And.right (And.right he)))))))
  have d8 : (x 8) = .int .i64 (S.size : Int) := And.left (And.right (And.right (And.right (And.right (And.right (And.right (And.right (And.right he))))))))
  have d9 : (x 9) = .bool false := And.left (And.right (And.right (And.right (And.right (And.right (And.right (And.right (And.right (And.right he)))))))))
  have d10 : (x 10) = .bool false := And.left (And.right (And.right (And.right (And.right (And.right (And.right (And.right (And.right (And.right (And.right he))))))))))
  have d11 : (x 11) = undef := And.left (And.right (And.right (And.right (And.right (And.right (And.right (And.right (And.right (And.right (And.right (And.right he)))))))))))
  have d12 : (x 12) = undef := And.left (And.right (And.right (And.right (And.right (And.right (And.right (And.right (And.right (And.right (And.right (And.right (And.right he))))))))))))
  have d13 : (x 13) = undef := And.left (And.right (And.right (And.right (And.right (And.right (And.right (And.right (And.right (And.right (And.right (And.right (And.right (And.right he)))))))))))))
  have d14 : (x 14) = undef := And.left (And.right (And.right (And.right (And.right (And.right (And.right (And.right (And.right (And.right (And.right (And.right (And.right (And.right (And.right he))))))))))))))
  have d15 : (x 15) = undef := And.left (And.right (And.right (And.right (And.right (And.right (And.right (And.right (And.right (And.right (And.right (And.right (And.right (And.right (And.right (And.right he)))))))))))))))
  have d16 : (x 16) = undef := And.left (And.right (And.right (And.right (And.right (And.right (And.right (And.right (And.right (And.right (And.right (And.right (And.right (And.right (And.right (And.right (And.right he))))))))))))))))
  have d17 : (x 17) = undef := And.left (And.right (And.right (And.right (And.right (And.right (And.right (And.right (And.right (And.right (And.right (And.right (And.right (And.right (And.right (And.right (And.right (And.right he)))))))))))))))))
  have d18 : (x 18) = undef := And.left (And.right (And.right (And.right (And.right (And.right (And.right (And.right (And.right (And.right (And.right (And.right (And.right (And.right (And.right (And.right (And.right (And.right (And.right he))))))))))))))))))
  have d19 : (x 19) = undef := And.left (And.right (And.right (And.right (And.right (And.right (And.right (And.right (And.right (And.right (And.right (And.right (And.right (And.right (And.right (And.right (And.right (And.right (And.right (And.right he)))))))))))))))))))
  have d20 : (x 20) = undef := And.left (And.right (And.right (And.right (And.right (And.right (And.right (And.right (And.right (And.right (And.right (And.right (And.right (And.right (And.right (And.right (And.right (And.right (And.right (And.right (And.right he))))))))))))))))))))
  have d21 : (x 21) = .bool false := And.left (And.right (And.right (And.right (And.right (And.right (And.right (And.right (And.right (And.right (And.right (And.right (And.right (And.right (And.right (And.right (And.right (And.right (And.right (And.right (And.right (And.right he)))))))))))))))))))))
  clear he
  refine ⟨?_⟩
  simp only [putsFrom, Act.put, List.setIfInBounds_toArray, List.set_cons_zero, List.set_cons_succ, Nat.reduceAdd, d0, d1, d2, d3, d4, d5, d6, d7, d8, d9, d10, d11, d12, d13, d14, d15, d16, d17, d18, d19, d20, d21]
  clear d0 d1 d2 d3 d4 d5 d6 d7 d8 d9 d10 d11 d12 d13 d14 d15 d16 d17 d18 d19 d20 d21
  exact hE _ hg
def posOf (w : World) (cb : Nat) : Nat := (intOf ((w.cell? ⟨cb, 1, none⟩).getD undef)).toNat
theorem Cut.posOf {w : World} {cb : Nat} {S : ByteArray} {c : CutM} {ov : Value} (h : Cut w cb S c ov) : posOf w cb = c.pos := by
  unfold Go.Proofs.Ytgonekmmbeedeaa.posOf; rw [h.c1]; simp [intOf]
set_option maxRecDepth 20000 in
set_option maxHeartbeats 8000000 in
theorem token_any (w : World) (cb : Nat) (S : ByteArray) (c : CutM) (h : CutS w cb S c) (hpl : c.pos < S.size) : Calls Try.prog 62 #[.pointer (some ⟨cb, 0, none⟩)] w (CutP w cb S (stepM S c)) := by
  have HC := hid h
  obtain ⟨⟨ov, h⟩, bd⟩ := h
  have H := hid h; have BD := hid bd
  have c0 := h.c0; have c1 := h.c1
  have hlt := h.lt
  obtain ⟨b, hb⟩ : ∃ b, S[c.pos] = b := ⟨_, rfl⟩
  have hrest : restOf S c.pos = b :: restOf S (c.pos + 1) := by rw [← hb]; exact rest_cons hpl

  have HRS := hid hrest; have HPL := hid hpl
  have i1 : (c.pos : Int) < (S.size : Int) := by omega
  have b10 := byte_beq b 10 (by decide)
  have b32 := byte_beq b 32 (by decide)
  have b9 := byte_beq b 9 (by decide)
  have b13 := byte_beq b 13 (by decide)
  have b34 := byte_beq b 34 (by decide)
  have b59 := byte_beq b 59 (by decide)
  have HSB := hid (fun c' (h2 : stepM S c = .ok c') => (bd.step hpl h2).1)
  by_cases e10 : b = 10
  · subst e10
    have HST := hid (step_nl hrest)
    have t10 : (((10 : UInt8).toNat : Int) == 10) = true := rfl
    clear hrest b10 b32 b9 b13 b34 b59 h
    cases hq : lineEndM c with
    | error er =>
      have HQ := hid hq
      have HN := hid (show stepM S c = .error er by rw [HST.out, hq])
      clear hq bd
      go_enter Try.func62, Try.ntmps62
      go_wp2_with fail
      go_quiet (fail)
      go_wp2_with (go_at_call 63; go_must (refine (lineEnd_any _ cb S c (HC.out.kp ((Kp.refl w).drewN _))).mono ?_); intro e w1 hp; obtain ⟨he, hb2⟩ := CutP.of_err hp HQ.out; unfold stopE at he; subst he; clear hp)
      exact ⟨rfl, .inr ⟨_, HN.out, rfl⟩, Below.trans (Below.mono ((Kp.refl w).drewN _) (Nat.le_of_lt HC.out.lt)) hb2⟩
    | ok c2 =>
      have HQ := hid hq
      obtain ⟨bd2, hpos⟩ := bd.lineEnd hq
      have HN := hid (show stepM S c = .ok { c2 with pos := c2.pos + 1, line := c2.line + 1, col := 1 } by rw [HST.out, hq])
      obtain ⟨p1, hp1⟩ : ∃ p1, c2.pos + 1 = p1 := ⟨_, rfl⟩
      obtain ⟨l1, hl1⟩ : ∃ l1, c2.line + 1 = l1 := ⟨_, rfl⟩
      have j1 : IntKind.i64.wrap ((c2.pos : Int) + 1) = (p1 : Int) := by rw [IntKind.wrap_i64]; have := bd2.size; have := bd2.pos; omega
      have j2 : IntKind.i64.wrap (c2.line + 1) = l1 := by rw [IntKind.wrap_i64]; have := bd2.size; have := bd2.pos; have := bd2.l1; have := bd2.l2; omega
      rw [hp1, hl1] at HN
      clear hq bd hpos hp1 hl1 bd2
      go_enter Try.func62, Try.ntmps62
      go_wp2_with fail
      go_quiet (fail)
      clear c0 c1
      go_wp2_with (go_at_call 63; go_must (refine (lineEnd_any _ cb S c (HC.out.kp ((Kp.refl w).drewN _))).mono ?_); intro e w1 hp; obtain ⟨he, ⟨⟨ov2, hcu⟩, hx2⟩, hb2⟩ := CutP.of_ok hp HQ.out; subst he; have HCU := hid hcu; have HBW := hid hb2; have q1 := hcu.c1; have q2 := hcu.c2; have q3 := hcu.c3; have f1 := hcu.fz 1; have f2 := hcu.fz 2; have f3 := hcu.fz 3; clear hp hcu hb2 hx2)
      first | go_end0 | refine bodyPost_ret (results_none rfl _ _ _) rfl ?_
      exact ⟨.inl ⟨_, HN.out, rfl, ⟨_, ((HCU.out.at_pos p1).at_line l1).at_col 1⟩, HSB.out _ HN.out⟩, Below.trans (Below.mono ((Kp.refl w).drewN _) (Nat.le_of_lt HC.out.lt)) (((HBW.out.setCell (Nat.le_refl _) _).setCell (Nat.le_refl _) _).setCell (Nat.le_refl _) _)⟩
  have t10 : ((b.toNat : Int) == 10) = false := b10.trans (beq_eq_false_iff_ne.2 e10)
  by_cases ebl : b = 32 ∨ b = 9 ∨ b = 13
  · have HN := hid (step_blank hrest e10 ebl)
    obtain ⟨p1, hp1⟩ : ∃ p1, c.pos + 1 = p1 := ⟨_, rfl⟩
    obtain ⟨l1, hl1⟩ : ∃ l1, c.col + 1 = l1 := ⟨_, rfl⟩
    have j1 : IntKind.i64.wrap ((c.pos : Int) + 1) = (p1 : Int) := by rw [IntKind.wrap_i64]; have := bd.size; omega
    have j2 : IntKind.i64.wrap (c.col + 1) = l1 := by rw [IntKind.wrap_i64]; have := bd.size; have := bd.pos; have := bd.c1; have := bd.c2; omega
    rw [hp1, hl1] at HN
    have c3 := h.c3; have f1 := h.fz 1; have f3 := h.fz 3
    clear h bd hrest hp1 hl1 b10 b32 b9 b13 b34 b59 t10 e10
    rcases ebl with rfl | rfl | rfl
    all_goals
      go_enter Try.func62, Try.ntmps62
      go_wp2_with fail
      go_quiet (fail)
      go_wp2
      first | go_end0 | refine bodyPost_ret (results_none rfl _ _ _) rfl ?_
      exact ⟨.inl ⟨_, HN.out, rfl, ⟨_, ((H.out.kp ((Kp.refl w).drewN _)).at_pos p1).at_col l1⟩, HSB.out _ HN.out⟩, ((Below.mono ((Kp.refl w).drewN _) (Nat.le_of_lt HC.out.lt)).setCell (Nat.le_refl _) _).setCell (Nat.le_refl _) _⟩
  have t32 : ((b.toNat : Int) == 32) = false := b32.trans (beq_eq_false_iff_ne.2 fun e => ebl (.inl e))
  have t9 : ((b.toNat : Int) == 9) = false := b9.trans (beq_eq_false_iff_ne.2 fun e => ebl (.inr (.inl e)))
  have t13 : ((b.toNat : Int) == 13) = false := b13.trans (beq_eq_false_iff_ne.2 fun e => ebl (.inr (.inr e)))
  obtain ⟨rs, hrs⟩ : ∃ rs, S.extract c.pos S.size = rs := ⟨_, rfl⟩
  have hrl : rs.data.toList = restOf S c.pos := by
    rw [← hrs]
    have e := ext_rest S c.pos (S.size - c.pos)
    rw [show c.pos + (S.size - c.pos) = S.size by omega, List.take_of_length_le (by rw [rest_len]; omega)] at e
    exact e
  have hrz : rs.size = S.size - c.pos := by rw [← hrs]; exact ext_size (Nat.le_of_lt hpl) (Nat.le_refl _)
  obtain ⟨pf, hx⟩ : ∃ pf, (rs.data.toList.take 2 == [47, 47]) = pf := ⟨_, rfl⟩
  have HX := hid hx
  have HRL := hid hrl
  have HRZ := hid hrz
  have hx2 : pf = true ↔ (b = 47 ∧ (restOf S (c.pos + 1)).head? = some 47) := by rw [← hx, hrl, hrest]; exact take2_iff _ _
  have HX2 := hid hx2
  have HE := hid e10; have HEB := hid ebl
  have j1 : (0 : Int) ≤ (c.pos : Int) := by omega
  have j2 : (c.pos : Int) ≤ (S.size : Int) := by omega
  clear h bd hrest hrl hrz hx hx2 b10 b32 b9 b13 e10 ebl
  go_enter Try.func62, Try.ntmps62
  go_wp2_with fail
  go_quiet (fail)
  go_upto_region 13 with fail
  clear c0 c1
  have HK1 := hid ((Kp.refl w).drewN nq)
  generalize w.drewN nq = W1 at HK1 ⊢
  have H1 := hid (H.out.kp HK1.out)
  refine wp_region_kp [[], [0], [1], [2], [], [4], [5], [6], [3, 7], [8], [9]] (fun u => Kp W1 u)
    [fun (y : Value) (u : World) => y = (.pointer (some ⟨cb, 0, none⟩) : Value),
     fun (y : Value) (u : World) => y = (.pointer (some ⟨cb, 0, none⟩) : Value),
     fun (y : Value) (u : World) => y = (.pointer (some ⟨cb, 0, none⟩) : Value),
     fun (y : Value) (u : World) => y = (.string S : Value),
     fun (y : Value) (u : World) => y = (.pointer (some ⟨cb, 0, none⟩) : Value),
     fun (y : Value) (u : World) => y = (.pointer (some ⟨cb, 0, none⟩) : Value),
     fun (y : Value) (u : World) => y = (.pointer (some ⟨cb, 1, none⟩) : Value),
     fun (y : Value) (u : World) => y = (.int .i64 (c.pos : Int) : Value),
     fun (y : Value) (u : World) => y = (.string rs : Value),
     fun (y : Value) (u : World) => y = (.bool pf : Value),
     fun (y : Value) (u : World) => y = (.bool pf : Value)]
    (by kernel_rfl) (by kernel_rfl) (by kernel_rfl) (by kernel_rfl) ((Kp.refl _).drew) (fun _ _ hk h => h.trans hk) ⟨fun _ _ _ _ h => h, fun _ _ _ _ h => h, fun _ _ _ _ h => h, fun _ _ _ _ h => h, fun _ _ _ _ h => h, fun _ _ _ _ h => h, fun _ _ _ _ h => h, fun _ _ _ _ h => h, fun _ _ _ _ h => h, fun _ _ _ _ h => h, fun _ _ _ _ h => h, trivial⟩ ⟨?se0, ?se1, ?se2, ?se3, ?se4, ?se5, ?se6, ?se7, ?se8, ?se9, ?se10, trivial⟩ ?hEe
  case se0 =>
    intro x u hg hd K hK
    clear hd
    refine ⟨?_⟩
    simp only [putsFrom, Act.put, List.setIfInBounds_toArray, List.set_cons_zero, List.set_cons_succ, Nat.reduceAdd] at hK ⊢
    go_simp
    exact hK.out _ _ (Kp.refl _) rfl
  case se1 =>
    intro x u hg hd K hK
    have d0 : (x 0) = .pointer (some ⟨cb, 0, none⟩) := And.left hd
    clear hd
    refine ⟨?_⟩
    simp only [putsFrom, Act.put, List.setIfInBounds_toArray, List.set_cons_zero, List.set_cons_succ, Nat.reduceAdd, d0] at hK ⊢
    go_simp
    exact hK.out _ _ (Kp.refl _) rfl
  case se2 =>
    intro x u hg hd K hK
    have d1 : (x 1) = .pointer (some ⟨cb, 0, none⟩) := And.left hd
    clear hd
    refine ⟨?_⟩
    simp only [putsFrom, Act.put, List.setIfInBounds_toArray, List.set_cons_zero, List.set_cons_succ, Nat.reduceAdd, d1] at hK ⊢
    go_simp
    exact hK.out _ _ (Kp.refl _) rfl
  case se3 =>
    intro x u hg hd K hK
    have d2 : (x 2) = .pointer (some ⟨cb, 0, none⟩) := And.left hd
    clear hd
    have q0 := cell_kp hg H1.out.lt H1.out.c0
    refine ⟨?_⟩
    simp only [putsFrom, Act.put, List.setIfInBounds_toArray, List.set_cons_zero, List.set_cons_succ, Nat.reduceAdd, d2] at hK ⊢
    go_simp
    exact hK.out _ _ (Kp.refl _) rfl
  case se4 =>
    intro x u hg hd K hK
    clear hd
    refine ⟨?_⟩
    simp only [putsFrom, Act.put, List.setIfInBounds_toArray, List.set_cons_zero, List.set_cons_succ, Nat.reduceAdd] at hK ⊢
    go_simp
    exact hK.out _ _ (Kp.refl _) rfl
  case se5 =>
    intro x u hg hd K hK
    have d4 : (x 4) = .pointer (some ⟨cb, 0, none⟩) := And.left hd
    clear hd
    refine ⟨?_⟩
    simp only [putsFrom, Act.put, List.setIfInBounds_toArray, List.set_cons_zero, List.set_cons_succ, Nat.reduceAdd, d4] at hK ⊢
    go_simp
    exact hK.out _ _ (Kp.refl _) rfl
  case se6 =>
    intro x u hg hd K hK
    have d5 : (x 5) = .pointer (some ⟨cb, 0, none⟩) := And.left hd
    clear hd
    refine ⟨?_⟩
    simp only [putsFrom, Act.put, List.setIfInBounds_toArray, List.set_cons_zero, List.set_cons_succ, Nat.reduceAdd, d5] at hK ⊢
    go_simp
    exact hK.out _ _ (Kp.refl _) rfl
  case se7 =>
    intro x u hg hd K hK
    have d6 : (x 6) = .pointer (some ⟨cb, 1, none⟩) := And.left hd
    clear hd
    have q0 := cell_kp hg H1.out.lt H1.out.c1
    refine ⟨?_⟩
    simp only [putsFrom, Act.put, List.setIfInBounds_toArray, List.set_cons_zero, List.set_cons_succ, Nat.reduceAdd, d6] at hK ⊢
    go_simp
    exact hK.out _ _ (Kp.refl _) rfl
  case se8 =>
    intro x u hg hd K hK
    have d3 : (x 3) = .string S := And.left hd
    have d7 : (x 7) = .int .i64 (c.pos : Int) := And.left (And.right hd)
    clear hd
    refine ⟨?_⟩
    simp only [putsFrom, Act.put, List.setIfInBounds_toArray, List.set_cons_zero, List.set_cons_succ, Nat.reduceAdd, d3, d7] at hK ⊢
    go_simp
    exact hK.out _ _ (Kp.refl _) rfl
  case se9 =>
    intro x u hg hd K hK
    have d8 : (x 8) = .string rs := And.left hd
    clear hd
    refine ⟨?_⟩
    simp only [putsFrom, Act.put, List.setIfInBounds_toArray, List.set_cons_zero, List.set_cons_succ, Nat.reduceAdd, d8] at hK ⊢
    go_simp
    go_at_call 75
    have hc := (has2K rs u)
    refine hc.mono ?_
    clear hc
    rintro e u' ⟨rfl, hk⟩
    dsimp only
    exact hK.out _ _ hk (congrArg Value.bool HX.out)
  case se10 =>
    intro x u hg hd K hK
    have d9 : (x 9) = .bool pf := And.left hd
    clear hd
    refine ⟨?_⟩
    simp only [putsFrom, Act.put, List.setIfInBounds_toArray, List.set_cons_zero, List.set_cons_succ, Nat.reduceAdd, d9] at hK ⊢
    go_simp
    exact hK.out _ _ (Kp.refl _) rfl
  intro x u hg he
  have d0 : (x 0) = .pointer (some ⟨cb, 0, none⟩) := And.left he
  have d1 : (x 1) = .pointer (some ⟨cb, 0, none⟩) := And.left (And.right he)
  have d2 : (x 2) = .pointer (some ⟨cb, 0, none⟩) := And.left (And.right (And.right he))
  have d3 : (x 3) = .string S := And.left (And.right (And.right (And.right he)))
  have d4 : (x 4) = .pointer (some ⟨cb, 0, none⟩) := And.left (And.right (And.right (And.right (And.right he))))
  have d5 : (x 5) = .pointer (some ⟨cb, 0, none⟩) := And.left (And.right (And.right (And.right (And.right (And.right he)))))
  have d6 : (x 6) = .pointer (some ⟨cb, 1, none⟩) := And.left (And.right (And.right (And.right (And.right (And.right (And.right he))))))
  have d7 : (x 7) = .int .i64 (c.pos : Int) := And.left (And.right (And.right (And.right (And.right (And.right (And.right (And.right he)))))))
  have d8 : (x 8) = .string rs := And.left (And.right (And.right (And.right (And.right (And.right (And.right (And.right (And.right he))))))))
  have d9 : (x 9) = .bool pf := And.left (And.right (And.right (And.right (And.right (And.right (And.right (And.right (And.right (And.right he)))))))))
  have d10 : (x 10) = .bool pf := And.left (And.right (And.right (And.right (And.right (And.right (And.right (And.right (And.right (And.right (And.right he))))))))))
  clear he
  refine ⟨?_⟩
  simp only [putsFrom, Act.put, List.setIfInBounds_toArray, List.set_cons_zero, List.set_cons_succ, Nat.reduceAdd, d0, d1, d2, d3, d4, d5, d6, d7, d8, d9, d10]
  clear d0 d1 d2 d3 d4 d5 d6 d7 d8 d9 d10
  have HG := hid (HK1.out.trans hg)
  clear hg
  have H2 := hid (H.out.kp HG.out)
  have HC2 := hid (HC.out.kp HG.out)
  have HBW := hid (Below.mono HG.out (Nat.le_of_lt HC.out.lt))
  generalize u = U2 at HG H2 HC2 HBW ⊢
  cases pf with
  | true =>
    have HN := hid (step_remark HRS.out HE.out HEB.out (HX2.out.1 rfl))
    have HS0 := hid (show SpanI noNl S c.pos c.pos from ⟨Nat.le_refl _, BD.out.pos, by omega⟩)
    go_wp2_with fail
    go_loopw [] (fun wr => ∃ k : Nat, SpanI noNl S c.pos k ∧ (∃ ov, Cut wr cb S { c with pos := k, col := c.col + ((k - c.pos : Nat) : Int) } ov) ∧ Below cb w wr) (fun wr => S.size - posOf wr cb)
    case atStart => exact ⟨c.pos, HS0.out, ⟨ov, by have h := H2.out; rw [Nat.sub_self]; simpa using h⟩, HBW.out⟩
    case round =>
      obtain ⟨k, hsp, ⟨ov2, hcu⟩, hbw⟩ := hrel
      have HSP := hid hsp; have HCU := hid hcu; have HBR := hid hbw
      have hpk := hsp.1
      clear hbw
      by_cases hk : k < S.size
      · obtain ⟨b2, hb2⟩ : ∃ b2, S[k] = b2 := ⟨_, rfl⟩
        have i2 : (k : Int) < (S.size : Int) := by omega
        by_cases e2 : b2 = 10
        · have n10 : ((b2.toNat : Int) != 10) = false := by
            have e3 : ((b2.toNat : Int) == 10) = true := (byte_beq b2 10 (by decide)).trans (by rw [e2]; rfl)
            rw [bne, e3]; rfl
          have hfin := hsp.fin (.inr ⟨hk, by rw [hb2, e2]; rfl⟩)
          have HF := hid (show stepM S c = .ok { c with pos := k, col := c.col + ((k - c.pos : Nat) : Int) } by
            rw [HN.out, hfin, show span_ noNl (restOf S c.pos) = k - c.pos by omega])
          clear hfin hsp
          go_upto_region 14 with fail
          refine tok14b S cb k b2 hcu.lt hcu.c0 hcu.c1 hk hb2 i2 n10 (fun u hg => ?_)
          have HGU := hid hg
          clear hg hcu
          go_wp2
          first | go_end0 | refine bodyPost_ret (results_none rfl _ _ _) rfl ?_
          exact ⟨.inl ⟨_, HF.out, rfl, ⟨_, HCU.out.kp HGU.out⟩, HSB.out _ HF.out⟩, Below.trans HBR.out (Below.mono HGU.out (Nat.le_of_lt HCU.out.lt))⟩
        · have n10 : ((b2.toNat : Int) != 10) = true := by
            have e3 : ((b2.toNat : Int) == 10) = false := (byte_beq b2 10 (by decide)).trans (beq_eq_false_iff_ne.2 e2)
            rw [bne, e3]; rfl
          have HUP := hid (hsp.up hk hb2 (by unfold noNl; rw [bne, beq_eq_false_iff_ne.2 e2]; rfl))
          obtain ⟨p1, hp1⟩ : ∃ p1, k + 1 = p1 := ⟨_, rfl⟩
          obtain ⟨q0, hq0⟩ : ∃ q0, c.col + ((k - c.pos : Nat) : Int) = q0 := ⟨_, rfl⟩
          obtain ⟨q1, hq1⟩ : ∃ q1, q0 + 1 = q1 := ⟨_, rfl⟩
          have hq2 : c.col + ((p1 - c.pos : Nat) : Int) = q1 := by omega
          have k1 : IntKind.i64.wrap ((k : Int) + 1) = (p1 : Int) := by rw [IntKind.wrap_i64]; have := BD.out.size; omega
          have k2 : IntKind.i64.wrap (q0 + 1) = q1 := by rw [IntKind.wrap_i64]; have := BD.out.size; have := BD.out.c1; have := BD.out.c2; omega
          rw [hq0] at HCU
          have HP1 := hid hp1; have HQ2 := hid hq2
          go_upto_region 14 with fail
          refine tok14y S cb k b2 hcu.lt hcu.c0 hcu.c1 hk hb2 i2 n10 (fun u hg => ?_)
          have HGU := hid hg
          have HU := hid (HCU.out.kp hg)
          have d1 := HU.out.c1; have d3 := HU.out.c3; have g1 := HU.out.fz 1; have g3 := HU.out.fz 3
          clear hg hcu hsp hp1 hq0 hq1 hq2
          go_wp2
          have hcf : Cut ((u.setCell ⟨cb, 1, none⟩ (.int .i64 (p1 : Int))).setCell ⟨cb, 3, none⟩ (.int .i64 q1)) cb S { c with pos := p1, col := c.col + ((p1 - c.pos : Nat) : Int) } ov2 := by
            rw [HQ2.out]; exact (HU.out.at_pos p1).at_col q1
          refine ⟨⟨p1, by have h := HUP.out; rw [HP1.out] at h; exact h, ⟨_, hcf⟩, ((Below.trans HBR.out (Below.mono HGU.out (Nat.le_of_lt HCU.out.lt))).setCell (Nat.le_refl _) _).setCell (Nat.le_refl _) _⟩, ?_⟩
          rw [hcf.posOf, HCU.out.posOf]
          show S.size - p1 < S.size - k
          have := HP1.out; omega
      · have i2 : ¬ (k : Int) < (S.size : Int) := by omega
        have hfin := hsp.fin (.inl (Nat.le_of_not_lt hk))
        have HF := hid (show stepM S c = .ok { c with pos := k, col := c.col + ((k - c.pos : Nat) : Int) } by
          rw [HN.out, hfin, show span_ noNl (restOf S c.pos) = k - c.pos by omega])
        clear hfin hsp
        go_upto_region 14 with fail
        refine tok14e S cb k hcu.lt hcu.c0 hcu.c1 i2 (fun u hg => ?_)
        have HGU := hid hg
        clear hg hcu
        go_wp2
        first | go_end0 | refine bodyPost_ret (results_none rfl _ _ _) rfl ?_
        exact ⟨.inl ⟨_, HF.out, rfl, ⟨_, HCU.out.kp HGU.out⟩, HSB.out _ HF.out⟩, Below.trans HBR.out (Below.mono HGU.out (Nat.le_of_lt HCU.out.lt))⟩
  | false =>
    have HNR := hid (show ¬ (b = 47 ∧ (restOf S (c.pos + 1)).head? = some 47) from fun e => by have := HX2.out.2 e; cases this)
    cases hl : letterB b with
    | true =>
      have HN := hid (step_name HRS.out HE.out HEB.out HNR.out hl)
      have HL := hid hl
      clear hl
      cases hq : nameM S c with
      | ok c2 =>
        have HQ := hid hq
        clear hq
        go_wp2_with first | (go_at_call 76; go_must (refine (letter_any b _).mono ?_); rintro e w8 ⟨rfl, rfl⟩; rw [HL.out]) | (go_at_call 77; go_must (refine (name_any _ cb S c HC2.out).mono ?_); intro e w9 hp; obtain ⟨he, hc2, hb2⟩ := CutP.of_ok hp HQ.out; subst he; clear hp)
        first | go_end0 | refine bodyPost_ret (results_none rfl _ _ _) rfl ?_
        exact ⟨.inl ⟨_, HN.out.trans HQ.out, rfl, hc2⟩, Below.trans HBW.out hb2⟩
      | error er =>
        have HQ := hid hq
        clear hq
        go_wp2_with first | (go_at_call 76; go_must (refine (letter_any b _).mono ?_); rintro e w8 ⟨rfl, rfl⟩; rw [HL.out]) | (go_at_call 77; go_must (refine (name_any _ cb S c HC2.out).mono ?_); intro e w9 hp; obtain ⟨he, hb2⟩ := CutP.of_err hp HQ.out; unfold stopE at he; subst he; clear hp)
        exact ⟨rfl, .inr ⟨_, HN.out.trans HQ.out, rfl⟩, Below.trans HBW.out hb2⟩
    | false =>
      have HL := hid hl
      cases hd : digitB b with
      | true =>
        have HN := hid (step_number HRS.out HE.out HEB.out HNR.out hl hd)
        have HD := hid hd
        clear hl hd
        cases hq : numberM S c with
        | ok c2 =>
          have HQ := hid hq
          clear hq
          go_wp2_with first | (go_at_call 76; go_must (refine (letter_any b _).mono ?_); rintro e w8 ⟨rfl, rfl⟩; rw [HL.out]) | (go_at_call 78; go_must (refine (digit_any b _).mono ?_); rintro e w8 ⟨rfl, rfl⟩; rw [HD.out]) | (go_at_call 79; go_must (refine (number_any _ cb S c HC2.out).mono ?_); intro e w9 hp; obtain ⟨he, hc2, hb2⟩ := CutP.of_ok hp HQ.out; subst he; clear hp)
          first | go_end0 | refine bodyPost_ret (results_none rfl _ _ _) rfl ?_
          exact ⟨.inl ⟨_, HN.out.trans HQ.out, rfl, hc2⟩, Below.trans HBW.out hb2⟩
        | error er =>
          have HQ := hid hq
          clear hq
          go_wp2_with first | (go_at_call 76; go_must (refine (letter_any b _).mono ?_); rintro e w8 ⟨rfl, rfl⟩; rw [HL.out]) | (go_at_call 78; go_must (refine (digit_any b _).mono ?_); rintro e w8 ⟨rfl, rfl⟩; rw [HD.out]) | (go_at_call 79; go_must (refine (number_any _ cb S c HC2.out).mono ?_); intro e w9 hp; obtain ⟨he, hb2⟩ := CutP.of_err hp HQ.out; unfold stopE at he; subst he; clear hp)
          exact ⟨rfl, .inr ⟨_, HN.out.trans HQ.out, rfl⟩, Below.trans HBW.out hb2⟩
      | false =>
        have HD := hid hd
        by_cases e34 : b = 34
        · have t34 : ((b.toNat : Int) == 34) = true := b34.trans (by rw [e34]; rfl)
          have hr9 := HRS.out
          rw [e34] at hr9
          have HN := hid (step_text hr9 rfl)
          have HR9 := hid hr9
          clear hl hd e34 hr9
          cases hq : textM S c with
          | ok c2 =>
            have HQ := hid hq
            clear hq
            go_wp2_with first | (go_at_call 76; go_must (refine (letter_any b _).mono ?_); rintro e w8 ⟨rfl, rfl⟩; rw [HL.out]) | (go_at_call 78; go_must (refine (digit_any b _).mono ?_); rintro e w8 ⟨rfl, rfl⟩; rw [HD.out]) | (go_at_call 80; go_must (refine (ctext_any _ cb S c HC2.out HR9.out).mono ?_); intro e w9 hp; obtain ⟨he, hc2, hb2⟩ := CutP.of_ok hp HQ.out; subst he; clear hp)
            first | go_end0 | refine bodyPost_ret (results_none rfl _ _ _) rfl ?_
            exact ⟨.inl ⟨_, HN.out.trans HQ.out, rfl, hc2⟩, Below.trans HBW.out hb2⟩
          | error er =>
            have HQ := hid hq
            clear hq
            go_wp2_with first | (go_at_call 76; go_must (refine (letter_any b _).mono ?_); rintro e w8 ⟨rfl, rfl⟩; rw [HL.out]) | (go_at_call 78; go_must (refine (digit_any b _).mono ?_); rintro e w8 ⟨rfl, rfl⟩; rw [HD.out]) | (go_at_call 80; go_must (refine (ctext_any _ cb S c HC2.out HR9.out).mono ?_); intro e w9 hp; obtain ⟨he, hb2⟩ := CutP.of_err hp HQ.out; unfold stopE at he; subst he; clear hp)
            exact ⟨rfl, .inr ⟨_, HN.out.trans HQ.out, rfl⟩, Below.trans HBW.out hb2⟩
        · have t34 : ((b.toNat : Int) == 34) = false := b34.trans (beq_eq_false_iff_ne.2 e34)
          by_cases e59 : b = 59
          · have t59 : ((b.toNat : Int) == 59) = true := b59.trans (by rw [e59]; rfl)
            have hr9 := HRS.out
            rw [e59] at hr9
            have e1 : S.extract c.pos (c.pos + 1) = ⟨#[59]⟩ := by
              refine bytes_eq ?_
              rw [ext_rest, hr9]; rfl
            have HN := hid (show stepM S c = putM c 6 ⟨#[59]⟩ 1 by rw [step_semi hr9, e1])
            clear hl hd e34 e59 hr9 e1
            cases hq : putM c 6 ⟨#[59]⟩ 1 with
            | ok c2 =>
              have HQ := hid hq
              clear hq
              go_wp2_with first | (go_at_call 76; go_must (refine (letter_any b _).mono ?_); rintro e w8 ⟨rfl, rfl⟩; rw [HL.out]) | (go_at_call 78; go_must (refine (digit_any b _).mono ?_); rintro e w8 ⟨rfl, rfl⟩; rw [HD.out]) | (go_at_call 81; go_must (refine (put_any _ cb S c HC2.out 6 (by unfold okI; omega) ⟨#[59]⟩ (by decide) 1 (by have := HPL.out; omega)).mono ?_); intro e w9 hp; obtain ⟨he, hc2, hb2⟩ := CutP.of_ok hp HQ.out; subst he; clear hp)
              first | go_end0 | refine bodyPost_ret (results_none rfl _ _ _) rfl ?_
              exact ⟨.inl ⟨_, HN.out.trans HQ.out, rfl, hc2⟩, Below.trans HBW.out hb2⟩
            | error er =>
              have HQ := hid hq
              clear hq
              go_wp2_with first | (go_at_call 76; go_must (refine (letter_any b _).mono ?_); rintro e w8 ⟨rfl, rfl⟩; rw [HL.out]) | (go_at_call 78; go_must (refine (digit_any b _).mono ?_); rintro e w8 ⟨rfl, rfl⟩; rw [HD.out]) | (go_at_call 81; go_must (refine (put_any _ cb S c HC2.out 6 (by unfold okI; omega) ⟨#[59]⟩ (by decide) 1 (by have := HPL.out; omega)).mono ?_); intro e w9 hp; obtain ⟨he, hb2⟩ := CutP.of_err hp HQ.out; unfold stopE at he; subst he; clear hp)
              exact ⟨rfl, .inr ⟨_, HN.out.trans HQ.out, rfl⟩, Below.trans HBW.out hb2⟩
          · have t59 : ((b.toNat : Int) == 59) = false := b59.trans (beq_eq_false_iff_ne.2 e59)
            have HN := hid (step_sign HRS.out HE.out HEB.out HNR.out hl hd e34 e59)
            obtain ⟨sg, hsg⟩ : ∃ sg, rs.extract 0 (signLen rs.data.toList) = sg := ⟨_, rfl⟩
            have hsl := signLen_le (restOf S c.pos)
            rw [rest_len] at hsl
            have hse : S.extract c.pos (c.pos + signLen (restOf S c.pos)) = sg := by
              rw [← hsg, HRL.out]
              refine (bytes_eq (ext_rest _ _ _)).trans (bytes_eq ?_).symm
              have e := ext_take rs (signLen (restOf S c.pos))
              rw [ByteArray.toList_eq, HRL.out] at e
              exact e
            have hsz : sg.size = signLen (restOf S c.pos) := by
              rw [← hse]; have := ext_size (S := S) (a := c.pos) (k := c.pos + signLen (restOf S c.pos)) (by omega) (by have := HPL.out; omega)
              omega
            rw [hse, ← hsz] at HN
            have HSG := hid hsg
            have HSS := hid (show sg.size ≤ 140737488351232 ∧ c.pos + sg.size ≤ S.size by have := BD.out.size; have := HPL.out; omega)
            have hrz2 := hid (show rs.size ≤ 140737488351232 by have := HRZ.out; have := BD.out.size; omega)
            clear hl hd e34 e59 hsl hse hsg hsz
            go_upto_region 1 with first | (go_at_call 76; go_must (refine (letter_any b _).mono ?_); rintro e w8 ⟨rfl, rfl⟩; rw [HL.out]) | (go_at_call 78; go_must (refine (digit_any b _).mono ?_); rintro e w8 ⟨rfl, rfl⟩; rw [HD.out])
            refine wp_region_kp [[], [0], [1], [2], [], [4], [5], [6], [3, 7], [8], [9]] (fun u => Kp U2 u)
              [fun (y : Value) (u : World) => y = (.pointer (some ⟨cb, 0, none⟩) : Value),
               fun (y : Value) (u : World) => y = (.pointer (some ⟨cb, 0, none⟩) : Value),
               fun (y : Value) (u : World) => y = (.pointer (some ⟨cb, 0, none⟩) : Value),
               fun (y : Value) (u : World) => y = (.string S : Value),
               fun (y : Value) (u : World) => y = (.pointer (some ⟨cb, 0, none⟩) : Value),
               fun (y : Value) (u : World) => y = (.pointer (some ⟨cb, 0, none⟩) : Value),
               fun (y : Value) (u : World) => y = (.pointer (some ⟨cb, 1, none⟩) : Value),
               fun (y : Value) (u : World) => y = (.int .i64 (c.pos : Int) : Value),
               fun (y : Value) (u : World) => y = (.string rs : Value),
               fun (y : Value) (u : World) => y = (.string sg : Value),
               fun (y : Value) (u : World) => y = (.string sg : Value)]
              (by kernel_rfl) (by kernel_rfl) (by kernel_rfl) (by kernel_rfl) ((Kp.refl _).drew) (fun _ _ hk h => h.trans hk) ⟨fun _ _ _ _ h => h, fun _ _ _ _ h => h, fun _ _ _ _ h => h, fun _ _ _ _ h => h, fun _ _ _ _ h => h, fun _ _ _ _ h => h, fun _ _ _ _ h => h, fun _ _ _ _ h => h, fun _ _ _ _ h => h, fun _ _ _ _ h => h, fun _ _ _ _ h => h, trivial⟩ ⟨?sf0, ?sf1, ?sf2, ?sf3, ?sf4, ?sf5, ?sf6, ?sf7, ?sf8, ?sf9, ?sf10, trivial⟩ ?hEf
            case sf0 =>
              intro x u hg hd K hK
              clear hd
              refine ⟨?_⟩
              simp only [putsFrom, Act.put, List.setIfInBounds_toArray, List.set_cons_zero, List.set_cons_succ, Nat.reduceAdd] at hK ⊢
              go_simp
              exact hK.out _ _ (Kp.refl _) rfl
            case sf1 =>
              intro x u hg hd K hK
              have d0 : (x 0) = .pointer (some ⟨cb, 0, none⟩) := And.left hd
              clear hd
              refine ⟨?_⟩
              simp only [putsFrom, Act.put, List.setIfInBounds_toArray, List.set_cons_zero, List.set_cons_succ, Nat.reduceAdd, d0] at hK ⊢
              go_simp
              exact hK.out _ _ (Kp.refl _) rfl
            case sf2 =>
              intro x u hg hd K hK
              have d1 : (x 1) = .pointer (some ⟨cb, 0, none⟩) := And.left hd
              clear hd
              refine ⟨?_⟩
              simp only [putsFrom, Act.put, List.setIfInBounds_toArray, List.set_cons_zero, List.set_cons_succ, Nat.reduceAdd, d1] at hK ⊢
              go_simp
              exact hK.out _ _ (Kp.refl _) rfl
            case sf3 =>
              intro x u hg hd K hK
              have d2 : (x 2) = .pointer (some ⟨cb, 0, none⟩) := And.left hd
              clear hd
              have q0 := cell_kp hg H2.out.lt H2.out.c0
              refine ⟨?_⟩
              simp only [putsFrom, Act.put, List.setIfInBounds_toArray, List.set_cons_zero, List.set_cons_succ, Nat.reduceAdd, d2] at hK ⊢
              go_simp
              exact hK.out _ _ (Kp.refl _) rfl
            case sf4 =>
              intro x u hg hd K hK
              clear hd
              refine ⟨?_⟩
              simp only [putsFrom, Act.put, List.setIfInBounds_toArray, List.set_cons_zero, List.set_cons_succ, Nat.reduceAdd] at hK ⊢
              go_simp
              exact hK.out _ _ (Kp.refl _) rfl
            case sf5 =>
              intro x u hg hd K hK
              have d4 : (x 4) = .pointer (some ⟨cb, 0, none⟩) := And.left hd
              clear hd
              refine ⟨?_⟩
              simp only [putsFrom, Act.put, List.setIfInBounds_toArray, List.set_cons_zero, List.set_cons_succ, Nat.reduceAdd, d4] at hK ⊢
              go_simp
              exact hK.out _ _ (Kp.refl _) rfl
            case sf6 =>
              intro x u hg hd K hK
              have d5 : (x 5) = .pointer (some ⟨cb, 0, none⟩) := And.left hd
              clear hd
              refine ⟨?_⟩
              simp only [putsFrom, Act.put, List.setIfInBounds_toArray, List.set_cons_zero, List.set_cons_succ, Nat.reduceAdd, d5] at hK ⊢
              go_simp
              exact hK.out _ _ (Kp.refl _) rfl
            case sf7 =>
              intro x u hg hd K hK
              have d6 : (x 6) = .pointer (some ⟨cb, 1, none⟩) := And.left hd
              clear hd
              have q0 := cell_kp hg H2.out.lt H2.out.c1
              refine ⟨?_⟩
              simp only [putsFrom, Act.put, List.setIfInBounds_toArray, List.set_cons_zero, List.set_cons_succ, Nat.reduceAdd, d6] at hK ⊢
              go_simp
              exact hK.out _ _ (Kp.refl _) rfl
            case sf8 =>
              intro x u hg hd K hK
              have d3 : (x 3) = .string S := And.left hd
              have d7 : (x 7) = .int .i64 (c.pos : Int) := And.left (And.right hd)
              clear hd
              refine ⟨?_⟩
              simp only [putsFrom, Act.put, List.setIfInBounds_toArray, List.set_cons_zero, List.set_cons_succ, Nat.reduceAdd, d3, d7] at hK ⊢
              go_simp
              exact hK.out _ _ (Kp.refl _) rfl
            case sf9 =>
              intro x u hg hd K hK
              have d8 : (x 8) = .string rs := And.left hd
              clear hd
              refine ⟨?_⟩
              simp only [putsFrom, Act.put, List.setIfInBounds_toArray, List.set_cons_zero, List.set_cons_succ, Nat.reduceAdd, d8] at hK ⊢
              go_simp
              go_at_call 82
              have hc := (sign_any rs u hrz2.out)
              refine hc.mono ?_
              clear hc
              rintro e u' ⟨rfl, hk⟩
              dsimp only
              exact hK.out _ _ hk (congrArg Value.string HSG.out)
            case sf10 =>
              intro x u hg hd K hK
              have d9 : (x 9) = .string sg := And.left hd
              clear hd
              refine ⟨?_⟩
              simp only [putsFrom, Act.put, List.setIfInBounds_toArray, List.set_cons_zero, List.set_cons_succ, Nat.reduceAdd, d9] at hK ⊢
              go_simp
              exact hK.out _ _ (Kp.refl _) rfl
            intro x u hg he
            have d0 : (x 0) = .pointer (some ⟨cb, 0, none⟩) := And.left he
            have d1 : (x 1) = .pointer (some ⟨cb, 0, none⟩) := And.left (And.right he)
            have d2 : (x 2) = .pointer (some ⟨cb, 0, none⟩) := And.left (And.right (And.right he))
            have d3 : (x 3) = .string S := And.left (And.right (And.right (And.right he)))
            have d4 : (x 4) = .pointer (some ⟨cb, 0, none⟩) := And.left (And.right (And.right (And.right (And.right he))))
            have d5 : (x 5) = .pointer (some ⟨cb, 0, none⟩) := And.left (And.right (And.right (And.right (And.right (And.right he)))))
            have d6 : (x 6) = .pointer (some ⟨cb, 1, none⟩) := And.left (And.right (And.right (And.right (And.right (And.right (And.right he))))))
            have d7 : (x 7) = .int .i64 (c.pos : Int) := And.left (And.right (And.right (And.right (And.right (And.right (And.right (And.right he)))))))
            have d8 : (x 8) = .string rs := And.left (And.right (And.right (And.right (And.right (And.right (And.right (And.right (And.right he))))))))
            have d9 : (x 9) = .string sg := And.left (And.right (And.right (And.right (And.right (And.right (And.right (And.right (And.right (And.right he)))))))))
            have d10 : (x 10) = .string sg := And.left (And.right (And.right (And.right (And.right (And.right (And.right (And.right (And.right (And.right (And.right he))))))))))
            clear he
            refine ⟨?_⟩
            simp only [putsFrom, Act.put, List.setIfInBounds_toArray, List.set_cons_zero, List.set_cons_succ, Nat.reduceAdd, d0, d1, d2, d3, d4, d5, d6, d7, d8, d9, d10]
            clear d0 d1 d2 d3 d4 d5 d6 d7 d8 d9 d10
            have HG3 := hid hg
            have HC3 := hid (HC2.out.kp hg)
            have HBW3 := hid (Below.trans HBW.out (Below.mono hg (Nat.le_of_lt HC2.out.lt)))
            clear hg
            by_cases hz : sg.size = 0
            · have HN3 := hid (HN.out.trans (if_pos hz))
              have tz : (sg.toList == []) = true := by
                rw [ByteArray.toList_eq, beq_iff_eq]
                exact List.eq_nil_of_length_eq_zero (by rw [Array.length_toList]; exact hz)
              clear hz
              go_wp2_with (go_at_call 83; go_must (refine (fail_any _ cb S c HC3.out 2).mono ?_); rintro e w9 ⟨he, hk9⟩; unfold stopE at he; subst he)
              exact ⟨rfl, .inr ⟨_, HN3.out, rfl⟩, Below.trans HBW3.out (Below.mono hk9 (Nat.le_of_lt HC3.out.lt))⟩
            · have HN := hid (HN.out.trans (if_neg hz))
              have tz : (sg.toList == []) = false := by
                rw [ByteArray.toList_eq, beq_eq_false_iff_ne]
                intro e
                have := congrArg List.length e
                rw [Array.length_toList] at this
                exact hz this
              clear hz
              cases hq : putM c 4 sg sg.size with
              | ok c2 =>
                have HQ := hid hq
                clear hq
                go_wp2_with first | fail | (go_at_call 81; go_must (refine (put_any _ cb S c HC3.out 4 (by unfold okI; omega) sg HSS.out.1 sg.size HSS.out.2).mono ?_); intro e w9 hp; obtain ⟨he, hc2, hb2⟩ := CutP.of_ok hp HQ.out; subst he; clear hp)
                first | go_end0 | refine bodyPost_ret (results_none rfl _ _ _) rfl ?_
                exact ⟨.inl ⟨_, HN.out.trans HQ.out, rfl, hc2⟩, Below.trans HBW3.out hb2⟩
              | error er =>
                have HQ := hid hq
                clear hq
                go_wp2_with first | fail | (go_at_call 81; go_must (refine (put_any _ cb S c HC3.out 4 (by unfold okI; omega) sg HSS.out.1 sg.size HSS.out.2).mono ?_); intro e w9 hp; obtain ⟨he, hb2⟩ := CutP.of_err hp HQ.out; unfold stopE at he; subst he; clear hp)
                exact ⟨rfl, .inr ⟨_, HN.out.trans HQ.out, rfl⟩, Below.trans HBW3.out hb2⟩
end Go.Proofs.Ytgonekmmbeedeaa
