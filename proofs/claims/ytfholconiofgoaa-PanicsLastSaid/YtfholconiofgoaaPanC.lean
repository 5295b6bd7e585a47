/-
  The two regions of the law PanicsLast that draw their order and only read. No condition.
-/
import Derived.Test.YtfholconiofgoaaPanL
import Derived.Test.YtfholconiofgoaaRegF
namespace Go.Proofs.Ytfholconiofgoaa
open Go.RowKit
set_option linter.unusedVariables false
set_option linter.unusedSimpArgs false

set_option maxRecDepth 20000 in
set_option maxHeartbeats 4000000 in
theorem last25 {W : World} {Q : Exit → Act → World → Prop} {s0 s1 s2 s3 s4 s5 s7 s8 s9 s10 s14 s15 s16 s17 s18 s19 s20 s21 s22 s23 s24 s25 s26 s27 s28 s29 s30 s31 s32 s33 s34 s35 s36 s37 s38 s39 s40 s41 s42 s43 s44 s45 s46 s47 s48 s49 s50 s51 s52 s53 s54 s55 s56 s57 s58 s59 s60 s61 s62 s63 s64 s65 s66 s67 s68 s69 s70 s71 s72 s73 s74 s75 s76 s77 s78 s79 s80 s81 s82 s83 s84 s85 s86 s87 s88 s89 s90 s91 s92 s93 s94 s95 s96 s97 s98 s99 s100 s101 s102 s103 s104 s105 s106 s107 s108 s109 s110 s111 s112 s113 s114 s115 s116 s117 s118 s119 s120 s121 s122 s123 s124 s125 s126 s127 s128 s129 s130 s131 s132 s133 s134 s135 s136 s137 s138 s139 s140 s141 s142 s143 s144 s145 s146 s147 s148 s149 s150 s151 s152 s153 s154 s155 s156 s157 s158 s159 s160 s161 s162 s163 s164 s165 s166 s167 s168 s169 s170 s171 s172 s173 s174 s175 s176 : Value} (bx kb nk ck ib ni ci top m : Nat) (tn : Int) (hb1 : bx < W.heap.size) (hb2 : kb < W.heap.size) (hb3 : ib < W.heap.size) (K0 : W.cell? ⟨kb, top, none⟩ = some (.slice (some ⟨ib, 0, none⟩) ni ci)) (I0 : W.cell? ⟨ib, m, none⟩ = some (.int .i64 tn)) (T1 : W.cell? ⟨bx, 1, none⟩ = some (.int .i64 tn)) (T2 : W.cell? ⟨bx, 2, none⟩ = some (.int .i64 (nk : Int))) (i1 : (top : Int) < (nk : Int)) (i2 : (m : Int) < (ni : Int)) (i3 : ¬ (m : Int) < 0) (i4 : decide ((m : Int) < 0) = false)
    (hE : ∀ u, Kp W u → Q .normal { tmps := #[s0, s1, s2, s3, s4, s5, .slice (some ⟨kb, 0, none⟩) nk ck, s7, s8, s9, s10, .pointer (some ⟨bx, 0, none⟩), .int .i64 (top : Int), .int .i64 (m : Int), s14, s15, s16, s17, s18, s19, s20, s21, s22, s23, s24, s25, s26, s27, s28, s29, s30, s31, s32, s33, s34, s35, s36, s37, s38, s39, s40, s41, s42, s43, s44, s45, s46, s47, s48, s49, s50, s51, s52, s53, s54, s55, s56, s57, s58, s59, s60, s61, s62, s63, s64, s65, s66, s67, s68, s69, s70, s71, s72, s73, s74, s75, s76, s77, s78, s79, s80, s81, s82, s83, s84, s85, s86, s87, s88, s89, s90, s91, s92, s93, s94, s95, s96, s97, s98, .int .i64 (m : Int), .bool false, .bool false, .slice (some ⟨kb, 0, none⟩) nk ck, .int .i64 (top : Int), .pointer (some ⟨kb, top, none⟩), .slice (some ⟨ib, 0, none⟩) ni ci, .int .i64 (m : Int), .pointer (some ⟨ib, m, none⟩), .int .i64 tn, .pointer (some ⟨bx, 1, none⟩), .int .i64 tn, .bool false, .bool false, .bool false, .pointer (some ⟨bx, 2, none⟩), .int .i64 (nk : Int), .slice (some ⟨kb, 0, none⟩) nk ck, .int .i64 (nk : Int), .bool false, .bool false, s120, s121, s122, s123, s124, s125, s126, s127, s128, s129, s130, s131, s132, s133, s134, s135, s136, s137, s138, s139, s140, s141, s142, s143, s144, s145, s146, s147, s148, s149, s150, s151, s152, s153, s154, s155, s156, s157, s158, s159, s160, s161, s162, s163, s164, s165, s166, s167, s168, s169, s170, s171, s172, s173, s174, s175, s176], defers := [] } u) :
    (Code.region 25 (regArr Try.f4 25) true).wp Try.prog Q { tmps := #[s0, s1, s2, s3, s4, s5, .slice (some ⟨kb, 0, none⟩) nk ck, s7, s8, s9, s10, .pointer (some ⟨bx, 0, none⟩), .int .i64 (top : Int), .int .i64 (m : Int), s14, s15, s16, s17, s18, s19, s20, s21, s22, s23, s24, s25, s26, s27, s28, s29, s30, s31, s32, s33, s34, s35, s36, s37, s38, s39, s40, s41, s42, s43, s44, s45, s46, s47, s48, s49, s50, s51, s52, s53, s54, s55, s56, s57, s58, s59, s60, s61, s62, s63, s64, s65, s66, s67, s68, s69, s70, s71, s72, s73, s74, s75, s76, s77, s78, s79, s80, s81, s82, s83, s84, s85, s86, s87, s88, s89, s90, s91, s92, s93, s94, s95, s96, s97, s98, s99, s100, s101, s102, s103, s104, s105, s106, s107, s108, s109, s110, s111, s112, s113, s114, s115, s116, s117, s118, s119, s120, s121, s122, s123, s124, s125, s126, s127, s128, s129, s130, s131, s132, s133, s134, s135, s136, s137, s138, s139, s140, s141, s142, s143, s144, s145, s146, s147, s148, s149, s150, s151, s152, s153, s154, s155, s156, s157, s158, s159, s160, s161, s162, s163, s164, s165, s166, s167, s168, s169, s170, s171, s172, s173, s174, s175, s176], defers := [] } W := by
  simp only [regArr, Try.f4, Option.map_some, Option.getD_some, regOf, if_true, if_false, List.append_nil, List.nil_append, List.toList_toArray, Nat.reduceEqDiff, reduceIte]
  refine wp_region_kp [[], [0], [1], [2], [2], [2, 3, 4], [2, 5], [2], [2, 6, 7], [2, 8], [2], [2, 10], [2, 9, 11], [2, 12], [13], [14], [14, 15], [14], [14, 17], [14, 16, 18], [14, 19]] (fun u => Kp W u)
    [fun (y : Value) (u : World) => y = (.int .i64 (m : Int) : Value),
     fun (y : Value) (u : World) => y = (.bool false : Value),
     fun (y : Value) (u : World) => y = (.bool false : Value),
     fun (y : Value) (u : World) => y = (.slice (some ⟨kb, 0, none⟩) nk ck : Value),
     fun (y : Value) (u : World) => y = (.int .i64 (top : Int) : Value),
     fun (y : Value) (u : World) => y = (.pointer (some ⟨kb, top, none⟩) : Value),
     fun (y : Value) (u : World) => y = (.slice (some ⟨ib, 0, none⟩) ni ci : Value),
     fun (y : Value) (u : World) => y = (.int .i64 (m : Int) : Value),
     fun (y : Value) (u : World) => y = (.pointer (some ⟨ib, m, none⟩) : Value),
     fun (y : Value) (u : World) => y = (.int .i64 tn : Value),
     fun (y : Value) (u : World) => y = (.pointer (some ⟨bx, 1, none⟩) : Value),
     fun (y : Value) (u : World) => y = (.int .i64 tn : Value),
     fun (y : Value) (u : World) => y = (.bool false : Value),
     fun (y : Value) (u : World) => y = (.bool false : Value),
     fun (y : Value) (u : World) => y = (.bool false : Value),
     fun (y : Value) (u : World) => y = (.pointer (some ⟨bx, 2, none⟩) : Value),
     fun (y : Value) (u : World) => y = (.int .i64 (nk : Int) : Value),
     fun (y : Value) (u : World) => y = (.slice (some ⟨kb, 0, none⟩) nk ck : Value),
     fun (y : Value) (u : World) => y = (.int .i64 (nk : Int) : Value),
     fun (y : Value) (u : World) => y = (.bool false : Value),
     fun (y : Value) (u : World) => y = (.bool false : Value)]
    (by kernel_rfl) (by kernel_rfl) (by kernel_rfl) (by kernel_rfl) ((Kp.refl _).drew) (fun _ _ hk h => h.trans hk) ⟨fun _ _ _ _ h => h, fun _ _ _ _ h => h, fun _ _ _ _ h => h, fun _ _ _ _ h => h, fun _ _ _ _ h => h, fun _ _ _ _ h => h, fun _ _ _ _ h => h, fun _ _ _ _ h => h, fun _ _ _ _ h => h, fun _ _ _ _ h => h, fun _ _ _ _ h => h, fun _ _ _ _ h => h, fun _ _ _ _ h => h, fun _ _ _ _ h => h, fun _ _ _ _ h => h, fun _ _ _ _ h => h, fun _ _ _ _ h => h, fun _ _ _ _ h => h, fun _ _ _ _ h => h, fun _ _ _ _ h => h, fun _ _ _ _ h => h, trivial⟩ ⟨?sb0, ?sb1, ?sb2, ?sb3, ?sb4, ?sb5, ?sb6, ?sb7, ?sb8, ?sb9, ?sb10, ?sb11, ?sb12, ?sb13, ?sb14, ?sb15, ?sb16, ?sb17, ?sb18, ?sb19, ?sb20, trivial⟩ ?hEb
  case sb0 =>
    refine OpStepK.by_ ?_
    intro a x u ht hs hg hd K hK
    clear hd
    refine OpGoal.live (wanted_free (by kernel_rfl)) ?_
    have e13 : a.eval (Operand.tmp 13) = (.int .i64 (m : Int) : Value) := (ht 13).trans (by kernel_rfl)
    clear ht hs
    refine BigFrame.wp_move _ rfl ?_
    exact hK.out _ _ (Kp.refl _) e13
  case sb1 =>
    refine OpStepK.by_ ?_
    intro a x u ht hs hg hd K hK
    have d0 : (x 0) = .int .i64 (m : Int) := And.left hd
    clear hd
    refine OpGoal.live (wanted_free (by kernel_rfl)) ?_
    have e99 : a.tmps[99]? = some (.int .i64 (m : Int) : Value) := (hs 99).trans (Eq.trans (b := some (x 0)) (by kernel_rfl) (by rw [d0]))
    clear d0
    clear ht hs
    go_simp
    exact hK.out _ _ (Kp.refl _) rfl
  case sb2 =>
    refine OpStepK.by_ ?_
    intro a x u ht hs hg hd K hK
    have d1 : (x 1) = .bool false := And.left hd
    clear hd
    refine OpGoal.live (wanted_free (by kernel_rfl)) ?_
    have e100 : a.eval (Operand.tmp 100) = (.bool false : Value) := (ht 100).trans (Eq.trans (b := x 1) (by kernel_rfl) d1)
    clear d1
    clear ht hs
    refine BigFrame.wp_move _ rfl ?_
    exact hK.out _ _ (Kp.refl _) e100
  case sb3 =>
    refine OpStepK.by_ ?_
    intro a x u ht hs hg hd K hK
    have d2 : (x 2) = .bool false := And.left hd
    clear hd
    refine OpGoal.live (wanted_yes (j := 2) (d := 101) (by kernel_rfl) (by kernel_rfl) ((hs 101).trans (Eq.trans (b := some (x 2)) (by kernel_rfl) (by rw [d2])))) ?_
    have e6 : a.eval (Operand.tmp 6) = (.slice (some ⟨kb, 0, none⟩) nk ck : Value) := (ht 6).trans (by kernel_rfl)
    clear d2
    clear ht hs
    refine BigFrame.wp_move _ rfl ?_
    exact hK.out _ _ (Kp.refl _) e6
  case sb4 =>
    refine OpStepK.by_ ?_
    intro a x u ht hs hg hd K hK
    have d2 : (x 2) = .bool false := And.left hd
    clear hd
    refine OpGoal.live (wanted_yes (j := 2) (d := 101) (by kernel_rfl) (by kernel_rfl) ((hs 101).trans (Eq.trans (b := some (x 2)) (by kernel_rfl) (by rw [d2])))) ?_
    have e12 : a.eval (Operand.tmp 12) = (.int .i64 (top : Int) : Value) := (ht 12).trans (by kernel_rfl)
    clear d2
    clear ht hs
    refine BigFrame.wp_move _ rfl ?_
    exact hK.out _ _ (Kp.refl _) e12
  case sb5 =>
    refine OpStepK.by_ ?_
    intro a x u ht hs hg hd K hK
    have d2 : (x 2) = .bool false := And.left hd
    have d3 : (x 3) = .slice (some ⟨kb, 0, none⟩) nk ck := And.left (And.right hd)
    have d4 : (x 4) = .int .i64 (top : Int) := And.left (And.right (And.right hd))
    clear hd
    refine OpGoal.live (wanted_yes (j := 2) (d := 101) (by kernel_rfl) (by kernel_rfl) ((hs 101).trans (Eq.trans (b := some (x 2)) (by kernel_rfl) (by rw [d2])))) ?_
    have e102 : a.tmps[102]? = some (.slice (some ⟨kb, 0, none⟩) nk ck : Value) := (hs 102).trans (Eq.trans (b := some (x 3)) (by kernel_rfl) (by rw [d3]))
    have e103 : a.tmps[103]? = some (.int .i64 (top : Int) : Value) := (hs 103).trans (Eq.trans (b := some (x 4)) (by kernel_rfl) (by rw [d4]))
    clear d2 d3 d4
    clear ht hs
    go_simp
    exact hK.out _ _ (Kp.refl _) rfl
  case sb6 =>
    refine OpStepK.by_ ?_
    intro a x u ht hs hg hd K hK
    have d2 : (x 2) = .bool false := And.left hd
    have d5 : (x 5) = .pointer (some ⟨kb, top, none⟩) := And.left (And.right hd)
    clear hd
    refine OpGoal.live (wanted_yes (j := 2) (d := 101) (by kernel_rfl) (by kernel_rfl) ((hs 101).trans (Eq.trans (b := some (x 2)) (by kernel_rfl) (by rw [d2])))) ?_
    have e104 : a.tmps[104]? = some (.pointer (some ⟨kb, top, none⟩) : Value) := (hs 104).trans (Eq.trans (b := some (x 5)) (by kernel_rfl) (by rw [d5]))
    clear d2 d5
    clear ht hs
    have q0 := cell_kp hg hb2 K0
    go_simp
    exact hK.out _ _ (Kp.refl _) rfl
  case sb7 =>
    refine OpStepK.by_ ?_
    intro a x u ht hs hg hd K hK
    have d2 : (x 2) = .bool false := And.left hd
    clear hd
    refine OpGoal.live (wanted_yes (j := 2) (d := 101) (by kernel_rfl) (by kernel_rfl) ((hs 101).trans (Eq.trans (b := some (x 2)) (by kernel_rfl) (by rw [d2])))) ?_
    have e13 : a.eval (Operand.tmp 13) = (.int .i64 (m : Int) : Value) := (ht 13).trans (by kernel_rfl)
    clear d2
    clear ht hs
    refine BigFrame.wp_move _ rfl ?_
    exact hK.out _ _ (Kp.refl _) e13
  case sb8 =>
    refine OpStepK.by_ ?_
    intro a x u ht hs hg hd K hK
    have d2 : (x 2) = .bool false := And.left hd
    have d6 : (x 6) = .slice (some ⟨ib, 0, none⟩) ni ci := And.left (And.right hd)
    have d7 : (x 7) = .int .i64 (m : Int) := And.left (And.right (And.right hd))
    clear hd
    refine OpGoal.live (wanted_yes (j := 2) (d := 101) (by kernel_rfl) (by kernel_rfl) ((hs 101).trans (Eq.trans (b := some (x 2)) (by kernel_rfl) (by rw [d2])))) ?_
    have e105 : a.tmps[105]? = some (.slice (some ⟨ib, 0, none⟩) ni ci : Value) := (hs 105).trans (Eq.trans (b := some (x 6)) (by kernel_rfl) (by rw [d6]))
    have e106 : a.tmps[106]? = some (.int .i64 (m : Int) : Value) := (hs 106).trans (Eq.trans (b := some (x 7)) (by kernel_rfl) (by rw [d7]))
    clear d2 d6 d7
    clear ht hs
    go_simp
    exact hK.out _ _ (Kp.refl _) rfl
  case sb9 =>
    refine OpStepK.by_ ?_
    intro a x u ht hs hg hd K hK
    have d2 : (x 2) = .bool false := And.left hd
    have d8 : (x 8) = .pointer (some ⟨ib, m, none⟩) := And.left (And.right hd)
    clear hd
    refine OpGoal.live (wanted_yes (j := 2) (d := 101) (by kernel_rfl) (by kernel_rfl) ((hs 101).trans (Eq.trans (b := some (x 2)) (by kernel_rfl) (by rw [d2])))) ?_
    have e107 : a.tmps[107]? = some (.pointer (some ⟨ib, m, none⟩) : Value) := (hs 107).trans (Eq.trans (b := some (x 8)) (by kernel_rfl) (by rw [d8]))
    clear d2 d8
    clear ht hs
    have q0 := cell_kp hg hb3 I0
    go_simp
    exact hK.out _ _ (Kp.refl _) rfl
  case sb10 =>
    refine OpStepK.by_ ?_
    intro a x u ht hs hg hd K hK
    have d2 : (x 2) = .bool false := And.left hd
    clear hd
    refine OpGoal.live (wanted_yes (j := 2) (d := 101) (by kernel_rfl) (by kernel_rfl) ((hs 101).trans (Eq.trans (b := some (x 2)) (by kernel_rfl) (by rw [d2])))) ?_
    have e11 : a.tmps[11]? = some (.pointer (some ⟨bx, 0, none⟩) : Value) := (hs 11).trans (by kernel_rfl)
    clear d2
    clear ht hs
    go_simp
    exact hK.out _ _ (Kp.refl _) rfl
  case sb11 =>
    refine OpStepK.by_ ?_
    intro a x u ht hs hg hd K hK
    have d2 : (x 2) = .bool false := And.left hd
    have d10 : (x 10) = .pointer (some ⟨bx, 1, none⟩) := And.left (And.right hd)
    clear hd
    refine OpGoal.live (wanted_yes (j := 2) (d := 101) (by kernel_rfl) (by kernel_rfl) ((hs 101).trans (Eq.trans (b := some (x 2)) (by kernel_rfl) (by rw [d2])))) ?_
    have e109 : a.tmps[109]? = some (.pointer (some ⟨bx, 1, none⟩) : Value) := (hs 109).trans (Eq.trans (b := some (x 10)) (by kernel_rfl) (by rw [d10]))
    clear d2 d10
    clear ht hs
    have q0 := cell_kp hg hb1 T1
    go_simp
    exact hK.out _ _ (Kp.refl _) rfl
  case sb12 =>
    refine OpStepK.by_ ?_
    intro a x u ht hs hg hd K hK
    have d2 : (x 2) = .bool false := And.left hd
    have d9 : (x 9) = .int .i64 tn := And.left (And.right hd)
    have d11 : (x 11) = .int .i64 tn := And.left (And.right (And.right hd))
    clear hd
    refine OpGoal.live (wanted_yes (j := 2) (d := 101) (by kernel_rfl) (by kernel_rfl) ((hs 101).trans (Eq.trans (b := some (x 2)) (by kernel_rfl) (by rw [d2])))) ?_
    have e108 : a.tmps[108]? = some (.int .i64 tn : Value) := (hs 108).trans (Eq.trans (b := some (x 9)) (by kernel_rfl) (by rw [d9]))
    have e110 : a.tmps[110]? = some (.int .i64 tn : Value) := (hs 110).trans (Eq.trans (b := some (x 11)) (by kernel_rfl) (by rw [d11]))
    clear d2 d9 d11
    clear ht hs
    go_simp
    exact hK.out _ _ (Kp.refl _) rfl
  case sb13 =>
    refine OpStepK.by_ ?_
    intro a x u ht hs hg hd K hK
    have d2 : (x 2) = .bool false := And.left hd
    have d12 : (x 12) = .bool false := And.left (And.right hd)
    clear hd
    refine OpGoal.live (wanted_free (by kernel_rfl)) ?_
    have e101 : a.tmps[101]? = some (.bool false : Value) := (hs 101).trans (Eq.trans (b := some (x 2)) (by kernel_rfl) (by rw [d2]))
    have e111 : a.tmps[111]? = some (.bool false : Value) := (hs 111).trans (Eq.trans (b := some (x 12)) (by kernel_rfl) (by rw [d12]))
    clear d2 d12
    clear ht hs
    go_simp
    exact hK.out _ _ (Kp.refl _) rfl
  case sb14 =>
    refine OpStepK.by_ ?_
    intro a x u ht hs hg hd K hK
    have d13 : (x 13) = .bool false := And.left hd
    clear hd
    refine OpGoal.live (wanted_free (by kernel_rfl)) ?_
    have e112 : a.eval (Operand.tmp 112) = (.bool false : Value) := (ht 112).trans (Eq.trans (b := x 13) (by kernel_rfl) d13)
    clear d13
    clear ht hs
    refine BigFrame.wp_move _ rfl ?_
    exact hK.out _ _ (Kp.refl _) e112
  case sb15 =>
    refine OpStepK.by_ ?_
    intro a x u ht hs hg hd K hK
    have d14 : (x 14) = .bool false := And.left hd
    clear hd
    refine OpGoal.live (wanted_yes (j := 14) (d := 113) (by kernel_rfl) (by kernel_rfl) ((hs 113).trans (Eq.trans (b := some (x 14)) (by kernel_rfl) (by rw [d14])))) ?_
    have e11 : a.tmps[11]? = some (.pointer (some ⟨bx, 0, none⟩) : Value) := (hs 11).trans (by kernel_rfl)
    clear d14
    clear ht hs
    go_simp
    exact hK.out _ _ (Kp.refl _) rfl
  case sb16 =>
    refine OpStepK.by_ ?_
    intro a x u ht hs hg hd K hK
    have d14 : (x 14) = .bool false := And.left hd
    have d15 : (x 15) = .pointer (some ⟨bx, 2, none⟩) := And.left (And.right hd)
    clear hd
    refine OpGoal.live (wanted_yes (j := 14) (d := 113) (by kernel_rfl) (by kernel_rfl) ((hs 113).trans (Eq.trans (b := some (x 14)) (by kernel_rfl) (by rw [d14])))) ?_
    have e114 : a.tmps[114]? = some (.pointer (some ⟨bx, 2, none⟩) : Value) := (hs 114).trans (Eq.trans (b := some (x 15)) (by kernel_rfl) (by rw [d15]))
    clear d14 d15
    clear ht hs
    have q0 := cell_kp hg hb1 T2
    go_simp
    exact hK.out _ _ (Kp.refl _) rfl
  case sb17 =>
    refine OpStepK.by_ ?_
    intro a x u ht hs hg hd K hK
    have d14 : (x 14) = .bool false := And.left hd
    clear hd
    refine OpGoal.live (wanted_yes (j := 14) (d := 113) (by kernel_rfl) (by kernel_rfl) ((hs 113).trans (Eq.trans (b := some (x 14)) (by kernel_rfl) (by rw [d14])))) ?_
    have e6 : a.eval (Operand.tmp 6) = (.slice (some ⟨kb, 0, none⟩) nk ck : Value) := (ht 6).trans (by kernel_rfl)
    clear d14
    clear ht hs
    refine BigFrame.wp_move _ rfl ?_
    exact hK.out _ _ (Kp.refl _) e6
  case sb18 =>
    refine OpStepK.by_ ?_
    intro a x u ht hs hg hd K hK
    have d14 : (x 14) = .bool false := And.left hd
    have d17 : (x 17) = .slice (some ⟨kb, 0, none⟩) nk ck := And.left (And.right hd)
    clear hd
    refine OpGoal.live (wanted_yes (j := 14) (d := 113) (by kernel_rfl) (by kernel_rfl) ((hs 113).trans (Eq.trans (b := some (x 14)) (by kernel_rfl) (by rw [d14])))) ?_
    have e116 : a.tmps[116]? = some (.slice (some ⟨kb, 0, none⟩) nk ck : Value) := (hs 116).trans (Eq.trans (b := some (x 17)) (by kernel_rfl) (by rw [d17]))
    clear d14 d17
    clear ht hs
    go_simp
    exact hK.out _ _ (Kp.refl _) rfl
  case sb19 =>
    refine OpStepK.by_ ?_
    intro a x u ht hs hg hd K hK
    have d14 : (x 14) = .bool false := And.left hd
    have d16 : (x 16) = .int .i64 (nk : Int) := And.left (And.right hd)
    have d18 : (x 18) = .int .i64 (nk : Int) := And.left (And.right (And.right hd))
    clear hd
    refine OpGoal.live (wanted_yes (j := 14) (d := 113) (by kernel_rfl) (by kernel_rfl) ((hs 113).trans (Eq.trans (b := some (x 14)) (by kernel_rfl) (by rw [d14])))) ?_
    have e115 : a.tmps[115]? = some (.int .i64 (nk : Int) : Value) := (hs 115).trans (Eq.trans (b := some (x 16)) (by kernel_rfl) (by rw [d16]))
    have e117 : a.tmps[117]? = some (.int .i64 (nk : Int) : Value) := (hs 117).trans (Eq.trans (b := some (x 18)) (by kernel_rfl) (by rw [d18]))
    clear d14 d16 d18
    clear ht hs
    go_simp
    exact hK.out _ _ (Kp.refl _) rfl
  case sb20 =>
    refine OpStepK.by_ ?_
    intro a x u ht hs hg hd K hK
    have d14 : (x 14) = .bool false := And.left hd
    have d19 : (x 19) = .bool false := And.left (And.right hd)
    clear hd
    refine OpGoal.live (wanted_free (by kernel_rfl)) ?_
    have e113 : a.tmps[113]? = some (.bool false : Value) := (hs 113).trans (Eq.trans (b := some (x 14)) (by kernel_rfl) (by rw [d14]))
    have e118 : a.tmps[118]? = some (.bool false : Value) := (hs 118).trans (Eq.trans (b := some (x 19)) (by kernel_rfl) (by rw [d19]))
    clear d14 d19
    clear ht hs
    go_simp
    exact hK.out _ _ (Kp.refl _) rfl
  intro x u hg he
  have d0 : (x 0) = .int .i64 (m : Int) := And.left he
  have d1 : (x 1) = .bool false := And.left (And.right he)
  have d2 : (x 2) = .bool false := And.left (And.right (And.right he))
  have d3 : (x 3) = .slice (some ⟨kb, 0, none⟩) nk ck := And.left (And.right (And.right (And.right he)))
  have d4 : (x 4) = .int .i64 (top : Int) := And.left (And.right (And.right (And.right (And.right he))))
  have d5 : (x 5) = .pointer (some ⟨kb, top, none⟩) := And.left (And.right (And.right (And.right (And.right (And.right he)))))
  have d6 : (x 6) = .slice (some ⟨ib, 0, none⟩) ni ci := And.left (And.right (And.right (And.right (And.right (And.right (And.right he))))))
  have d7 : (x 7) = .int .i64 (m : Int) := And.left (And.right (And.right (And.right (And.right (And.right (And.right (And.right he)))))))
  have d8 : (x 8) = .pointer (some ⟨ib, m, none⟩) := And.left (And.right (And.right (And.right (And.right (And.right (And.right (And.right (And.right he))))))))
  have d9 : (x 9) = .int .i64 tn := And.left (And.right (And.right (And.right (And.right (And.right (And.right (And.right (And.right (And.right he)))))))))
  have d10 : (x 10) = .pointer (some ⟨bx, 1, none⟩) := And.left (And.right (And.right (And.right (And.right (And.right (And.right (And.right (And.right (And.right (And.right he))))))))))
  have d11 : (x 11) = .int .i64 tn := And.left (And.right (And.right (And.right (And.right (And.right (And.right (And.right (And.right (And.right (And.right (And.right he)))))))))))
  have d12 : (x 12) = .bool false := And.left (And.right (And.right (And.right (And.right (And.right (And.right (And.right (And.right (And.right (And.right (And.right (And.right he))))))))))))
  have d13 : (x 13) = .bool false := And.left (And.right (And.right (And.right (And.right (And.right (And.right (And.right (And.right (And.right (And.right (And.right (And.right (And.right he)))))))))))))
  have d14 : (x 14) = .bool false := And.left (And.right (And.right (And.right (And.right (And.right (And.right (And.right (And.right (And.right (And.right (And.right (And.right (And.right (And.right he))))))))))))))
  have d15 : (x 15) = .pointer (some ⟨bx, 2, none⟩) := And.left (And.right (And.right (And.right (And.right (And.right (And.right (And.right (And.right (And.right (And.right (And.right (And.right (And.right (And.right (And.right he)))))))))))))))
  have d16 : (x 16) = .int .i64 (nk : Int) := And.left (And.right (And.right (And.right (And.right (And.right (And.right (And.right (And.right (And.right (And.right (And.right (And.right (And.right (And.right (And.right (And.right he))))))))))))))))
  have d17 : (x 17) = .slice (some ⟨kb, 0, none⟩) nk ck := And.left (And.right (And.right (And.right (And.right (And.right (And.right (And.right (And.right (And.right (And.right (And.right (And.right (And.right (And.right (And.right (And.right (And.right he)))))))))))))))))
  have d18 : (x 18) = .int .i64 (nk : Int) := And.left (And.right (And.right (And.right (And.right (And.right (And.right (And.right (And.right (And.right (And.right (And.right (And.right (And.right (And.right (And.right (And.right (And.right (And.right he))))))))))))))))))
  have d19 : (x 19) = .bool false := And.left (And.right (And.right (And.right (And.right (And.right (And.right (And.right (And.right (And.right (And.right (And.right (And.right (And.right (And.right (And.right (And.right (And.right (And.right (And.right he)))))))))))))))))))
  have d20 : (x 20) = .bool false := And.left (And.right (And.right (And.right (And.right (And.right (And.right (And.right (And.right (And.right (And.right (And.right (And.right (And.right (And.right (And.right (And.right (And.right (And.right (And.right (And.right he))))))))))))))))))))
  clear he
  refine ⟨?_⟩
  simp only [putsFrom, Act.put, List.setIfInBounds_toArray, List.set_cons_zero, List.set_cons_succ, Nat.reduceAdd, d0, d1, d2, d3, d4, d5, d6, d7, d8, d9, d10, d11, d12, d13, d14, d15, d16, d17, d18, d19, d20]
  clear d0 d1 d2 d3 d4 d5 d6 d7 d8 d9 d10 d11 d12 d13 d14 d15 d16 d17 d18 d19 d20
  exact hE _ hg
set_option maxRecDepth 20000 in
set_option maxHeartbeats 4000000 in
theorem last33 {W : World} {Q : Exit → Act → World → Prop} {s0 s1 s2 s3 s4 s5 s8 s9 s10 s12 s13 s15 s16 s17 s18 s19 s20 s21 s22 s23 s24 s25 s26 s27 s28 s29 s30 s31 s32 s33 s34 s35 s36 s37 s38 s39 s40 s41 s42 s43 s44 s45 s46 s47 s48 s49 s50 s51 s52 s53 s54 s55 s56 s57 s58 s59 s60 s61 s62 s63 s64 s65 s66 s67 s68 s69 s70 s71 s72 s73 s74 s75 s76 s77 s78 s79 s80 s81 s82 s83 s84 s85 s86 s87 s88 s89 s90 s91 s92 s93 s94 s95 s96 s97 s98 s99 s100 s101 s102 s103 s104 s105 s106 s107 s108 s109 s110 s111 s112 s113 s114 s115 s116 s117 s118 s119 s120 s121 s122 s123 s124 s125 s126 s127 s128 s129 s130 s131 s132 s133 s134 s135 s136 s137 s138 s139 s140 s141 s142 s143 s144 s145 s146 s147 s148 s149 s150 s151 s152 s153 s154 s155 s156 s157 s158 s159 s160 s161 s162 s163 s164 s165 s166 s167 s168 s169 s170 s171 s172 s173 s174 s175 s176 : Value} (bx kb nk ck sb ns cs i m ci : Nat) (Ai : Option Addr) (hb1 : bx < W.heap.size) (hb2 : kb < W.heap.size) (hb3 : sb < W.heap.size) (K0 : W.cell? ⟨kb, i, none⟩ = some (.slice Ai 0 ci)) (S0 : W.cell? ⟨sb, m, none⟩ = some (.int .i64 (i : Int))) (T1 : W.cell? ⟨bx, 1, none⟩ = some (.int .i64 (i : Int))) (i1 : (i : Int) < (nk : Int)) (i2 : (m : Int) < (ns : Int)) (i3 : ¬ (m : Int) < 0) (i4 : decide ((m : Int) < 0) = false)
    (hE : ∀ u, Kp W u → Q .normal { tmps := #[s0, s1, s2, s3, s4, s5, .slice (some ⟨kb, 0, none⟩) nk ck, .slice (some ⟨sb, 0, none⟩) ns cs, s8, s9, s10, .pointer (some ⟨bx, 0, none⟩), s12, s13, .int .i64 (m : Int), s15, s16, s17, s18, s19, s20, s21, s22, s23, s24, s25, s26, s27, s28, s29, s30, s31, s32, s33, s34, s35, s36, s37, s38, s39, s40, s41, s42, s43, s44, s45, s46, s47, s48, s49, s50, s51, s52, s53, s54, s55, s56, s57, s58, s59, s60, s61, s62, s63, s64, s65, s66, s67, s68, s69, s70, s71, s72, s73, s74, s75, s76, s77, s78, s79, s80, s81, s82, s83, s84, s85, s86, s87, s88, s89, s90, s91, s92, s93, s94, s95, s96, s97, s98, s99, s100, s101, s102, s103, s104, s105, s106, s107, s108, s109, s110, s111, s112, s113, s114, s115, s116, s117, s118, s119, s120, s121, s122, s123, s124, s125, s126, s127, s128, s129, s130, s131, s132, s133, s134, s135, s136, s137, s138, s139, s140, s141, s142, .int .i64 (m : Int), .bool false, .bool false, .slice (some ⟨sb, 0, none⟩) ns cs, .int .i64 (m : Int), .pointer (some ⟨sb, m, none⟩), .int .i64 (i : Int), .pointer (some ⟨bx, 1, none⟩), .int .i64 (i : Int), .bool false, .bool false, .bool false, .slice (some ⟨kb, 0, none⟩) nk ck, .pointer (some ⟨bx, 1, none⟩), .int .i64 (i : Int), .pointer (some ⟨kb, i, none⟩), .slice Ai 0 ci, .int .i64 0, .bool false, .bool false, s163, s164, s165, s166, s167, s168, s169, s170, s171, s172, s173, s174, s175, s176], defers := [] } u) :
    (Code.region 33 (regArr Try.f4 33) true).wp Try.prog Q { tmps := #[s0, s1, s2, s3, s4, s5, .slice (some ⟨kb, 0, none⟩) nk ck, .slice (some ⟨sb, 0, none⟩) ns cs, s8, s9, s10, .pointer (some ⟨bx, 0, none⟩), s12, s13, .int .i64 (m : Int), s15, s16, s17, s18, s19, s20, s21, s22, s23, s24, s25, s26, s27, s28, s29, s30, s31, s32, s33, s34, s35, s36, s37, s38, s39, s40, s41, s42, s43, s44, s45, s46, s47, s48, s49, s50, s51, s52, s53, s54, s55, s56, s57, s58, s59, s60, s61, s62, s63, s64, s65, s66, s67, s68, s69, s70, s71, s72, s73, s74, s75, s76, s77, s78, s79, s80, s81, s82, s83, s84, s85, s86, s87, s88, s89, s90, s91, s92, s93, s94, s95, s96, s97, s98, s99, s100, s101, s102, s103, s104, s105, s106, s107, s108, s109, s110, s111, s112, s113, s114, s115, s116, s117, s118, s119, s120, s121, s122, s123, s124, s125, s126, s127, s128, s129, s130, s131, s132, s133, s134, s135, s136, s137, s138, s139, s140, s141, s142, s143, s144, s145, s146, s147, s148, s149, s150, s151, s152, s153, s154, s155, s156, s157, s158, s159, s160, s161, s162, s163, s164, s165, s166, s167, s168, s169, s170, s171, s172, s173, s174, s175, s176], defers := [] } W := by
  simp only [regArr, Try.f4, Option.map_some, Option.getD_some, regOf, if_true, if_false, List.append_nil, List.nil_append, List.toList_toArray, Nat.reduceEqDiff, reduceIte]
  refine wp_region_kp [[], [0], [1], [2], [2], [2, 3, 4], [2, 5], [2], [2, 7], [2, 6, 8], [2, 9], [10], [11], [11], [11, 13], [11, 12, 14], [11, 15], [11, 16], [11, 17], [11, 18]] (fun u => Kp W u)
    [fun (y : Value) (u : World) => y = (.int .i64 (m : Int) : Value),
     fun (y : Value) (u : World) => y = (.bool false : Value),
     fun (y : Value) (u : World) => y = (.bool false : Value),
     fun (y : Value) (u : World) => y = (.slice (some ⟨sb, 0, none⟩) ns cs : Value),
     fun (y : Value) (u : World) => y = (.int .i64 (m : Int) : Value),
     fun (y : Value) (u : World) => y = (.pointer (some ⟨sb, m, none⟩) : Value),
     fun (y : Value) (u : World) => y = (.int .i64 (i : Int) : Value),
     fun (y : Value) (u : World) => y = (.pointer (some ⟨bx, 1, none⟩) : Value),
     fun (y : Value) (u : World) => y = (.int .i64 (i : Int) : Value),
     fun (y : Value) (u : World) => y = (.bool false : Value),
     fun (y : Value) (u : World) => y = (.bool false : Value),
     fun (y : Value) (u : World) => y = (.bool false : Value),
     fun (y : Value) (u : World) => y = (.slice (some ⟨kb, 0, none⟩) nk ck : Value),
     fun (y : Value) (u : World) => y = (.pointer (some ⟨bx, 1, none⟩) : Value),
     fun (y : Value) (u : World) => y = (.int .i64 (i : Int) : Value),
     fun (y : Value) (u : World) => y = (.pointer (some ⟨kb, i, none⟩) : Value),
     fun (y : Value) (u : World) => y = (.slice Ai 0 ci : Value),
     fun (y : Value) (u : World) => y = (.int .i64 0 : Value),
     fun (y : Value) (u : World) => y = (.bool false : Value),
     fun (y : Value) (u : World) => y = (.bool false : Value)]
    (by kernel_rfl) (by kernel_rfl) (by kernel_rfl) (by kernel_rfl) ((Kp.refl _).drew) (fun _ _ hk h => h.trans hk) ⟨fun _ _ _ _ h => h, fun _ _ _ _ h => h, fun _ _ _ _ h => h, fun _ _ _ _ h => h, fun _ _ _ _ h => h, fun _ _ _ _ h => h, fun _ _ _ _ h => h, fun _ _ _ _ h => h, fun _ _ _ _ h => h, fun _ _ _ _ h => h, fun _ _ _ _ h => h, fun _ _ _ _ h => h, fun _ _ _ _ h => h, fun _ _ _ _ h => h, fun _ _ _ _ h => h, fun _ _ _ _ h => h, fun _ _ _ _ h => h, fun _ _ _ _ h => h, fun _ _ _ _ h => h, fun _ _ _ _ h => h, trivial⟩ ⟨?sc0, ?sc1, ?sc2, ?sc3, ?sc4, ?sc5, ?sc6, ?sc7, ?sc8, ?sc9, ?sc10, ?sc11, ?sc12, ?sc13, ?sc14, ?sc15, ?sc16, ?sc17, ?sc18, ?sc19, trivial⟩ ?hEc
  case sc0 =>
    refine OpStepK.by_ ?_
    intro a x u ht hs hg hd K hK
    clear hd
    refine OpGoal.live (wanted_free (by kernel_rfl)) ?_
    have e14 : a.eval (Operand.tmp 14) = (.int .i64 (m : Int) : Value) := (ht 14).trans (by kernel_rfl)
    clear ht hs
    refine BigFrame.wp_move _ rfl ?_
    exact hK.out _ _ (Kp.refl _) e14
  case sc1 =>
    refine OpStepK.by_ ?_
    intro a x u ht hs hg hd K hK
    have d0 : (x 0) = .int .i64 (m : Int) := And.left hd
    clear hd
    refine OpGoal.live (wanted_free (by kernel_rfl)) ?_
    have e143 : a.tmps[143]? = some (.int .i64 (m : Int) : Value) := (hs 143).trans (Eq.trans (b := some (x 0)) (by kernel_rfl) (by rw [d0]))
    clear d0
    clear ht hs
    go_simp
    exact hK.out _ _ (Kp.refl _) rfl
  case sc2 =>
    refine OpStepK.by_ ?_
    intro a x u ht hs hg hd K hK
    have d1 : (x 1) = .bool false := And.left hd
    clear hd
    refine OpGoal.live (wanted_free (by kernel_rfl)) ?_
    have e144 : a.eval (Operand.tmp 144) = (.bool false : Value) := (ht 144).trans (Eq.trans (b := x 1) (by kernel_rfl) d1)
    clear d1
    clear ht hs
    refine BigFrame.wp_move _ rfl ?_
    exact hK.out _ _ (Kp.refl _) e144
  case sc3 =>
    refine OpStepK.by_ ?_
    intro a x u ht hs hg hd K hK
    have d2 : (x 2) = .bool false := And.left hd
    clear hd
    refine OpGoal.live (wanted_yes (j := 2) (d := 145) (by kernel_rfl) (by kernel_rfl) ((hs 145).trans (Eq.trans (b := some (x 2)) (by kernel_rfl) (by rw [d2])))) ?_
    have e7 : a.eval (Operand.tmp 7) = (.slice (some ⟨sb, 0, none⟩) ns cs : Value) := (ht 7).trans (by kernel_rfl)
    clear d2
    clear ht hs
    refine BigFrame.wp_move _ rfl ?_
    exact hK.out _ _ (Kp.refl _) e7
  case sc4 =>
    refine OpStepK.by_ ?_
    intro a x u ht hs hg hd K hK
    have d2 : (x 2) = .bool false := And.left hd
    clear hd
    refine OpGoal.live (wanted_yes (j := 2) (d := 145) (by kernel_rfl) (by kernel_rfl) ((hs 145).trans (Eq.trans (b := some (x 2)) (by kernel_rfl) (by rw [d2])))) ?_
    have e14 : a.eval (Operand.tmp 14) = (.int .i64 (m : Int) : Value) := (ht 14).trans (by kernel_rfl)
    clear d2
    clear ht hs
    refine BigFrame.wp_move _ rfl ?_
    exact hK.out _ _ (Kp.refl _) e14
  case sc5 =>
    refine OpStepK.by_ ?_
    intro a x u ht hs hg hd K hK
    have d2 : (x 2) = .bool false := And.left hd
    have d3 : (x 3) = .slice (some ⟨sb, 0, none⟩) ns cs := And.left (And.right hd)
    have d4 : (x 4) = .int .i64 (m : Int) := And.left (And.right (And.right hd))
    clear hd
    refine OpGoal.live (wanted_yes (j := 2) (d := 145) (by kernel_rfl) (by kernel_rfl) ((hs 145).trans (Eq.trans (b := some (x 2)) (by kernel_rfl) (by rw [d2])))) ?_
    have e146 : a.tmps[146]? = some (.slice (some ⟨sb, 0, none⟩) ns cs : Value) := (hs 146).trans (Eq.trans (b := some (x 3)) (by kernel_rfl) (by rw [d3]))
    have e147 : a.tmps[147]? = some (.int .i64 (m : Int) : Value) := (hs 147).trans (Eq.trans (b := some (x 4)) (by kernel_rfl) (by rw [d4]))
    clear d2 d3 d4
    clear ht hs
    go_simp
    exact hK.out _ _ (Kp.refl _) rfl
  case sc6 =>
    refine OpStepK.by_ ?_
    intro a x u ht hs hg hd K hK
    have d2 : (x 2) = .bool false := And.left hd
    have d5 : (x 5) = .pointer (some ⟨sb, m, none⟩) := And.left (And.right hd)
    clear hd
    refine OpGoal.live (wanted_yes (j := 2) (d := 145) (by kernel_rfl) (by kernel_rfl) ((hs 145).trans (Eq.trans (b := some (x 2)) (by kernel_rfl) (by rw [d2])))) ?_
    have e148 : a.tmps[148]? = some (.pointer (some ⟨sb, m, none⟩) : Value) := (hs 148).trans (Eq.trans (b := some (x 5)) (by kernel_rfl) (by rw [d5]))
    clear d2 d5
    clear ht hs
    have q0 := cell_kp hg hb3 S0
    go_simp
    exact hK.out _ _ (Kp.refl _) rfl
  case sc7 =>
    refine OpStepK.by_ ?_
    intro a x u ht hs hg hd K hK
    have d2 : (x 2) = .bool false := And.left hd
    clear hd
    refine OpGoal.live (wanted_yes (j := 2) (d := 145) (by kernel_rfl) (by kernel_rfl) ((hs 145).trans (Eq.trans (b := some (x 2)) (by kernel_rfl) (by rw [d2])))) ?_
    have e11 : a.tmps[11]? = some (.pointer (some ⟨bx, 0, none⟩) : Value) := (hs 11).trans (by kernel_rfl)
    clear d2
    clear ht hs
    go_simp
    exact hK.out _ _ (Kp.refl _) rfl
  case sc8 =>
    refine OpStepK.by_ ?_
    intro a x u ht hs hg hd K hK
    have d2 : (x 2) = .bool false := And.left hd
    have d7 : (x 7) = .pointer (some ⟨bx, 1, none⟩) := And.left (And.right hd)
    clear hd
    refine OpGoal.live (wanted_yes (j := 2) (d := 145) (by kernel_rfl) (by kernel_rfl) ((hs 145).trans (Eq.trans (b := some (x 2)) (by kernel_rfl) (by rw [d2])))) ?_
    have e150 : a.tmps[150]? = some (.pointer (some ⟨bx, 1, none⟩) : Value) := (hs 150).trans (Eq.trans (b := some (x 7)) (by kernel_rfl) (by rw [d7]))
    clear d2 d7
    clear ht hs
    have q0 := cell_kp hg hb1 T1
    go_simp
    exact hK.out _ _ (Kp.refl _) rfl
  case sc9 =>
    refine OpStepK.by_ ?_
    intro a x u ht hs hg hd K hK
    have d2 : (x 2) = .bool false := And.left hd
    have d6 : (x 6) = .int .i64 (i : Int) := And.left (And.right hd)
    have d8 : (x 8) = .int .i64 (i : Int) := And.left (And.right (And.right hd))
    clear hd
    refine OpGoal.live (wanted_yes (j := 2) (d := 145) (by kernel_rfl) (by kernel_rfl) ((hs 145).trans (Eq.trans (b := some (x 2)) (by kernel_rfl) (by rw [d2])))) ?_
    have e149 : a.tmps[149]? = some (.int .i64 (i : Int) : Value) := (hs 149).trans (Eq.trans (b := some (x 6)) (by kernel_rfl) (by rw [d6]))
    have e151 : a.tmps[151]? = some (.int .i64 (i : Int) : Value) := (hs 151).trans (Eq.trans (b := some (x 8)) (by kernel_rfl) (by rw [d8]))
    clear d2 d6 d8
    clear ht hs
    go_simp
    exact hK.out _ _ (Kp.refl _) rfl
  case sc10 =>
    refine OpStepK.by_ ?_
    intro a x u ht hs hg hd K hK
    have d2 : (x 2) = .bool false := And.left hd
    have d9 : (x 9) = .bool false := And.left (And.right hd)
    clear hd
    refine OpGoal.live (wanted_free (by kernel_rfl)) ?_
    have e145 : a.tmps[145]? = some (.bool false : Value) := (hs 145).trans (Eq.trans (b := some (x 2)) (by kernel_rfl) (by rw [d2]))
    have e152 : a.tmps[152]? = some (.bool false : Value) := (hs 152).trans (Eq.trans (b := some (x 9)) (by kernel_rfl) (by rw [d9]))
    clear d2 d9
    clear ht hs
    go_simp
    exact hK.out _ _ (Kp.refl _) rfl
  case sc11 =>
    refine OpStepK.by_ ?_
    intro a x u ht hs hg hd K hK
    have d10 : (x 10) = .bool false := And.left hd
    clear hd
    refine OpGoal.live (wanted_free (by kernel_rfl)) ?_
    have e153 : a.eval (Operand.tmp 153) = (.bool false : Value) := (ht 153).trans (Eq.trans (b := x 10) (by kernel_rfl) d10)
    clear d10
    clear ht hs
    refine BigFrame.wp_move _ rfl ?_
    exact hK.out _ _ (Kp.refl _) e153
  case sc12 =>
    refine OpStepK.by_ ?_
    intro a x u ht hs hg hd K hK
    have d11 : (x 11) = .bool false := And.left hd
    clear hd
    refine OpGoal.live (wanted_yes (j := 11) (d := 154) (by kernel_rfl) (by kernel_rfl) ((hs 154).trans (Eq.trans (b := some (x 11)) (by kernel_rfl) (by rw [d11])))) ?_
    have e6 : a.eval (Operand.tmp 6) = (.slice (some ⟨kb, 0, none⟩) nk ck : Value) := (ht 6).trans (by kernel_rfl)
    clear d11
    clear ht hs
    refine BigFrame.wp_move _ rfl ?_
    exact hK.out _ _ (Kp.refl _) e6
  case sc13 =>
    refine OpStepK.by_ ?_
    intro a x u ht hs hg hd K hK
    have d11 : (x 11) = .bool false := And.left hd
    clear hd
    refine OpGoal.live (wanted_yes (j := 11) (d := 154) (by kernel_rfl) (by kernel_rfl) ((hs 154).trans (Eq.trans (b := some (x 11)) (by kernel_rfl) (by rw [d11])))) ?_
    have e11 : a.tmps[11]? = some (.pointer (some ⟨bx, 0, none⟩) : Value) := (hs 11).trans (by kernel_rfl)
    clear d11
    clear ht hs
    go_simp
    exact hK.out _ _ (Kp.refl _) rfl
  case sc14 =>
    refine OpStepK.by_ ?_
    intro a x u ht hs hg hd K hK
    have d11 : (x 11) = .bool false := And.left hd
    have d13 : (x 13) = .pointer (some ⟨bx, 1, none⟩) := And.left (And.right hd)
    clear hd
    refine OpGoal.live (wanted_yes (j := 11) (d := 154) (by kernel_rfl) (by kernel_rfl) ((hs 154).trans (Eq.trans (b := some (x 11)) (by kernel_rfl) (by rw [d11])))) ?_
    have e156 : a.tmps[156]? = some (.pointer (some ⟨bx, 1, none⟩) : Value) := (hs 156).trans (Eq.trans (b := some (x 13)) (by kernel_rfl) (by rw [d13]))
    clear d11 d13
    clear ht hs
    have q0 := cell_kp hg hb1 T1
    go_simp
    exact hK.out _ _ (Kp.refl _) rfl
  case sc15 =>
    refine OpStepK.by_ ?_
    intro a x u ht hs hg hd K hK
    have d11 : (x 11) = .bool false := And.left hd
    have d12 : (x 12) = .slice (some ⟨kb, 0, none⟩) nk ck := And.left (And.right hd)
    have d14 : (x 14) = .int .i64 (i : Int) := And.left (And.right (And.right hd))
    clear hd
    refine OpGoal.live (wanted_yes (j := 11) (d := 154) (by kernel_rfl) (by kernel_rfl) ((hs 154).trans (Eq.trans (b := some (x 11)) (by kernel_rfl) (by rw [d11])))) ?_
    have e155 : a.tmps[155]? = some (.slice (some ⟨kb, 0, none⟩) nk ck : Value) := (hs 155).trans (Eq.trans (b := some (x 12)) (by kernel_rfl) (by rw [d12]))
    have e157 : a.tmps[157]? = some (.int .i64 (i : Int) : Value) := (hs 157).trans (Eq.trans (b := some (x 14)) (by kernel_rfl) (by rw [d14]))
    clear d11 d12 d14
    clear ht hs
    go_simp
    exact hK.out _ _ (Kp.refl _) rfl
  case sc16 =>
    refine OpStepK.by_ ?_
    intro a x u ht hs hg hd K hK
    have d11 : (x 11) = .bool false := And.left hd
    have d15 : (x 15) = .pointer (some ⟨kb, i, none⟩) := And.left (And.right hd)
    clear hd
    refine OpGoal.live (wanted_yes (j := 11) (d := 154) (by kernel_rfl) (by kernel_rfl) ((hs 154).trans (Eq.trans (b := some (x 11)) (by kernel_rfl) (by rw [d11])))) ?_
    have e158 : a.tmps[158]? = some (.pointer (some ⟨kb, i, none⟩) : Value) := (hs 158).trans (Eq.trans (b := some (x 15)) (by kernel_rfl) (by rw [d15]))
    clear d11 d15
    clear ht hs
    have q0 := cell_kp hg hb2 K0
    go_simp
    exact hK.out _ _ (Kp.refl _) rfl
  case sc17 =>
    refine OpStepK.by_ ?_
    intro a x u ht hs hg hd K hK
    have d11 : (x 11) = .bool false := And.left hd
    have d16 : (x 16) = .slice Ai 0 ci := And.left (And.right hd)
    clear hd
    refine OpGoal.live (wanted_yes (j := 11) (d := 154) (by kernel_rfl) (by kernel_rfl) ((hs 154).trans (Eq.trans (b := some (x 11)) (by kernel_rfl) (by rw [d11])))) ?_
    have e159 : a.tmps[159]? = some (.slice Ai 0 ci : Value) := (hs 159).trans (Eq.trans (b := some (x 16)) (by kernel_rfl) (by rw [d16]))
    clear d11 d16
    clear ht hs
    go_simp
    exact hK.out _ _ (Kp.refl _) rfl
  case sc18 =>
    refine OpStepK.by_ ?_
    intro a x u ht hs hg hd K hK
    have d11 : (x 11) = .bool false := And.left hd
    have d17 : (x 17) = .int .i64 0 := And.left (And.right hd)
    clear hd
    refine OpGoal.live (wanted_yes (j := 11) (d := 154) (by kernel_rfl) (by kernel_rfl) ((hs 154).trans (Eq.trans (b := some (x 11)) (by kernel_rfl) (by rw [d11])))) ?_
    have e160 : a.tmps[160]? = some (.int .i64 0 : Value) := (hs 160).trans (Eq.trans (b := some (x 17)) (by kernel_rfl) (by rw [d17]))
    clear d11 d17
    clear ht hs
    go_simp
    exact hK.out _ _ (Kp.refl _) rfl
  case sc19 =>
    refine OpStepK.by_ ?_
    intro a x u ht hs hg hd K hK
    have d11 : (x 11) = .bool false := And.left hd
    have d18 : (x 18) = .bool false := And.left (And.right hd)
    clear hd
    refine OpGoal.live (wanted_free (by kernel_rfl)) ?_
    have e154 : a.tmps[154]? = some (.bool false : Value) := (hs 154).trans (Eq.trans (b := some (x 11)) (by kernel_rfl) (by rw [d11]))
    have e161 : a.tmps[161]? = some (.bool false : Value) := (hs 161).trans (Eq.trans (b := some (x 18)) (by kernel_rfl) (by rw [d18]))
    clear d11 d18
    clear ht hs
    go_simp
    exact hK.out _ _ (Kp.refl _) rfl
  intro x u hg he
  have d0 : (x 0) = .int .i64 (m : Int) := And.left he
  have d1 : (x 1) = .bool false := And.left (And.right he)
  have d2 : (x 2) = .bool false := And.left (And.right (And.right he))
  have d3 : (x 3) = .slice (some ⟨sb, 0, none⟩) ns cs := And.left (And.right (And.right (And.right he)))
  have d4 : (x 4) = .int .i64 (m : Int) := And.left (And.right (And.right (And.right (And.right he))))
  have d5 : (x 5) = .pointer (some ⟨sb, m, none⟩) := And.left (And.right (And.right (And.right (And.right (And.right he)))))
  have d6 : (x 6) = .int .i64 (i : Int) := And.left (And.right (And.right (And.right (And.right (And.right (And.right he))))))
  have d7 : (x 7) = .pointer (some ⟨bx, 1, none⟩) := And.left (And.right (And.right (And.right (And.right (And.right (And.right (And.right he)))))))
  have d8 : (x 8) = .int .i64 (i : Int) := And.left (And.right (And.right (And.right (And.right (And.right (And.right (And.right (And.right he))))))))
  have d9 : (x 9) = .bool false := And.left (And.right (And.right (And.right (And.right (And.right (And.right (And.right (And.right (And.right he)))))))))
  have d10 : (x 10) = .bool false := And.left (And.right (And.right (And.right (And.right (And.right (And.right (And.right (And.right (And.right (And.right he))))))))))
  have d11 : (x 11) = .bool false := And.left (And.right (And.right (And.right (And.right (And.right (And.right (And.right (And.right (And.right (And.right (And.right he)))))))))))
  have d12 : (x 12) = .slice (some ⟨kb, 0, none⟩) nk ck := And.left (And.right (And.right (And.right (And.right (And.right (And.right (And.right (And.right (And.right (And.right (And.right (And.right he))))))))))))
  have d13 : (x 13) = .pointer (some ⟨bx, 1, none⟩) := And.left (And.right (And.right (And.right (And.right (And.right (And.right (And.right (And.right (And.right (And.right (And.right (And.right (And.right he)))))))))))))
  have d14 : (x 14) = .int .i64 (i : Int) := And.left (And.right (And.right (And.right (And.right (And.right (And.right (And.right (And.right (And.right (And.right (And.right (And.right (And.right (And.right he))))))))))))))
  have d15 : (x 15) = .pointer (some ⟨kb, i, none⟩) := And.left (And.right (And.right (And.right (And.right (And.right (And.right (And.right (And.right (And.right (And.right (And.right (And.right (And.right (And.right (And.right he)))))))))))))))
  have d16 : (x 16) = .slice Ai 0 ci := And.left (And.right (And.right (And.right (And.right (And.right (And.right (And.right (And.right (And.right (And.right (And.right (And.right (And.right (And.right (And.right (And.right he))))))))))))))))
  have d17 : (x 17) = .int .i64 0 := And.left (And.right (And.right (And.right (And.right (And.right (And.right (And.right (And.right (And.right (And.right (And.right (And.right (And.right (And.right (And.right (And.right (And.right he)))))))))))))))))
  have d18 : (x 18) = .bool false := And.left (And.right (And.right (And.right (And.right (And.right (And.right (And.right (And.right (And.right (And.right (And.right (And.right (And.right (And.right (And.right (And.right (And.right (And.right he))))))))))))))))))
  have d19 : (x 19) = .bool false := And.left (And.right (And.right (And.right (And.right (And.right (And.right (And.right (And.right (And.right (And.right (And.right (And.right (And.right (And.right (And.right (And.right (And.right (And.right (And.right he)))))))))))))))))))
  clear he
  refine ⟨?_⟩
  simp only [putsFrom, Act.put, List.setIfInBounds_toArray, List.set_cons_zero, List.set_cons_succ, Nat.reduceAdd, d0, d1, d2, d3, d4, d5, d6, d7, d8, d9, d10, d11, d12, d13, d14, d15, d16, d17, d18, d19]
  clear d0 d1 d2 d3 d4 d5 d6 d7 d8 d9 d10 d11 d12 d13 d14 d15 d16 d17 d18 d19
  exact hE _ hg
end Go.Proofs.Ytfholconiofgoaa
