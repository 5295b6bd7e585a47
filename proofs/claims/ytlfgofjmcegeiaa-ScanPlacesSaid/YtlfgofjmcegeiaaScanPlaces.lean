/-
  The law ScanPlaces answers true for all texts. No condition.
-/
import Derived.SizedLaws
import Derived.Deep.CondSized
import Derived.Test.YtlfgofjmcegeiaaRows
import Derived.Test.YtlfgofjmcegeiaaScan3
namespace Go.Proofs.Ytlfgofjmcegeiaa.scanPlaces
open Go.ChangeShapes Go.WideShapes Go.ChangeAt Go.RowKit
open Go.ChangeMaps (open_string shut_string)
set_option linter.unusedVariables false
set_option linter.unusedSimpArgs false

theorem own : ownKnob Try.prog.godebug = none := by kernel_rfl
theorem laidOut : laidOutB Try.prog = true := by kernel_rfl


set_option maxRecDepth 20000 in
set_option maxHeartbeats 4000000 in
theorem pl17a {W : World} {Q : Exit → Act → World → Prop} {s1 s2 s4 s5 s6 s10 s11 s12 s13 s14 s15 s16 s17 s18 s19 s20 s21 s22 s23 s24 s25 s26 s27 s28 s29 s30 s31 s32 s33 s34 s35 s36 s37 s38 s39 s40 s41 s42 s43 s44 s45 s46 s47 s48 s49 s50 s51 s52 s53 s54 s55 s56 s57 s58 s59 s60 s61 s62 s63 s64 s65 s66 s67 s68 s69 s70 s71 s72 s73 s74 s75 s76 s77 s78 s79 s80 s81 s82 s83 s84 s85 s86 s87 s88 s89 s90 s91 s92 s93 s94 s95 s96 s97 s98 s99 s100 s101 s102 s103 s104 s105 s106 s107 s108 s109 s110 s111 s112 s113 s114 s115 s116 s117 s118 s119 s120 s121 s122 s123 s124 s125 s126 s127 s128 s129 s130 s131 s132 s133 s134 s135 s136 : Value} (S s : ByteArray) (b off nl cl k pa n m : Nat) (hb : b < W.heap.size) (T1 : W.cell? ⟨b, off + k * 4 + 1, none⟩ = some (.string s)) (i1 : (k : Int) < (nl : Int)) (j1 : IntKind.i64.wrap ((pa : Int) + (n : Int)) = (m : Int)) (j2 : (m : Int) ≤ (S.size : Int)) (j3 : (0 : Int) ≤ (pa : Int)) (j4 : (pa : Int) ≤ (m : Int)) (hx : S.extract pa m = s)
    (hE : ∀ u, Kp W u → Q .normal { tmps := #[.string S, s1, s2, .slice (some ⟨b, off, none⟩) nl cl, s4, s5, s6, .int .i64 (pa : Int), .int .i64 (k : Int), .int .i64 (n : Int), .bool true, s11, s12, s13, s14, s15, s16, s17, s18, s19, s20, s21, s22, s23, s24, s25, s26, s27, s28, s29, s30, s31, s32, s33, s34, s35, s36, s37, s38, s39, s40, s41, s42, s43, s44, s45, s46, s47, s48, s49, s50, s51, s52, s53, s54, s55, s56, s57, s58, s59, s60, s61, s62, s63, s64, s65, s66, s67, s68, s69, s70, s71, s72, s73, s74, s75, s76, s77, s78, s79, s80, s81, s82, s83, s84, .int .i64 (pa : Int), .int .i64 (n : Int), .int .i64 (m : Int), .string S, .int .i64 (S.size : Int), .bool true, .bool true, .string S, .int .i64 (pa : Int), .int .i64 (pa : Int), .int .i64 (n : Int), .int .i64 (m : Int), .string s, .slice (some ⟨b, off, none⟩) nl cl, .int .i64 (k : Int), .pointer (some ⟨b, off + k * 4, none⟩), .pointer (some ⟨b, off + k * 4 + 1, none⟩), .string s, .bool true, .bool true, s105, s106, s107, s108, s109, s110, s111, s112, s113, s114, s115, s116, s117, s118, s119, s120, s121, s122, s123, s124, s125, s126, s127, s128, s129, s130, s131, s132, s133, s134, s135, s136], defers := [] } u) :
    (Code.region 17 (regArr Try.f5 17) true).wp Try.prog Q { tmps := #[.string S, s1, s2, .slice (some ⟨b, off, none⟩) nl cl, s4, s5, s6, .int .i64 (pa : Int), .int .i64 (k : Int), .int .i64 (n : Int), s10, s11, s12, s13, s14, s15, s16, s17, s18, s19, s20, s21, s22, s23, s24, s25, s26, s27, s28, s29, s30, s31, s32, s33, s34, s35, s36, s37, s38, s39, s40, s41, s42, s43, s44, s45, s46, s47, s48, s49, s50, s51, s52, s53, s54, s55, s56, s57, s58, s59, s60, s61, s62, s63, s64, s65, s66, s67, s68, s69, s70, s71, s72, s73, s74, s75, s76, s77, s78, s79, s80, s81, s82, s83, s84, s85, s86, s87, s88, s89, s90, s91, s92, s93, s94, s95, s96, s97, s98, s99, s100, s101, s102, s103, s104, s105, s106, s107, s108, s109, s110, s111, s112, s113, s114, s115, s116, s117, s118, s119, s120, s121, s122, s123, s124, s125, s126, s127, s128, s129, s130, s131, s132, s133, s134, s135, s136], defers := [] } W := by
  simp only [regArr, Try.f5, Option.map_some, Option.getD_some, regOf, if_true, if_false, List.append_nil, List.nil_append, List.toList_toArray, Nat.reduceEqDiff, reduceIte]
  refine wp_region_kp [[], [], [0, 1], [], [3], [2, 4], [5], [6], [6], [6], [6], [6, 9, 10], [6, 7, 8, 11], [6], [6], [6, 13, 14], [6, 15], [6, 16], [6, 12, 17], [6, 18], [19]] (fun u => Kp W u)
    [fun (y : Value) (u : World) => y = (.int .i64 (pa : Int) : Value),
     fun (y : Value) (u : World) => y = (.int .i64 (n : Int) : Value),
     fun (y : Value) (u : World) => y = (.int .i64 (m : Int) : Value),
     fun (y : Value) (u : World) => y = (.string S : Value),
     fun (y : Value) (u : World) => y = (.int .i64 (S.size : Int) : Value),
     fun (y : Value) (u : World) => y = (.bool true : Value),
     fun (y : Value) (u : World) => y = (.bool true : Value),
     fun (y : Value) (u : World) => y = (.string S : Value),
     fun (y : Value) (u : World) => y = (.int .i64 (pa : Int) : Value),
     fun (y : Value) (u : World) => y = (.int .i64 (pa : Int) : Value),
     fun (y : Value) (u : World) => y = (.int .i64 (n : Int) : Value),
     fun (y : Value) (u : World) => y = (.int .i64 (m : Int) : Value),
     fun (y : Value) (u : World) => y = (.string s : Value),
     fun (y : Value) (u : World) => y = (.slice (some ⟨b, off, none⟩) nl cl : Value),
     fun (y : Value) (u : World) => y = (.int .i64 (k : Int) : Value),
     fun (y : Value) (u : World) => y = (.pointer (some ⟨b, off + k * 4, none⟩) : Value),
     fun (y : Value) (u : World) => y = (.pointer (some ⟨b, off + k * 4 + 1, none⟩) : Value),
     fun (y : Value) (u : World) => y = (.string s : Value),
     fun (y : Value) (u : World) => y = (.bool true : Value),
     fun (y : Value) (u : World) => y = (.bool true : Value),
     fun (y : Value) (u : World) => y = (.bool true : Value)]
    (by kernel_rfl) (by kernel_rfl) (by kernel_rfl) (by kernel_rfl) ((Kp.refl _).drew) (fun _ _ hk h => h.trans hk) ⟨fun _ _ _ _ h => h, fun _ _ _ _ h => h, fun _ _ _ _ h => h, fun _ _ _ _ h => h, fun _ _ _ _ h => h, fun _ _ _ _ h => h, fun _ _ _ _ h => h, fun _ _ _ _ h => h, fun _ _ _ _ h => h, fun _ _ _ _ h => h, fun _ _ _ _ h => h, fun _ _ _ _ h => h, fun _ _ _ _ h => h, fun _ _ _ _ h => h, fun _ _ _ _ h => h, fun _ _ _ _ h => h, fun _ _ _ _ h => h, fun _ _ _ _ h => h, fun _ _ _ _ h => h, fun _ _ _ _ h => h, fun _ _ _ _ h => h, trivial⟩ ⟨?sb0, ?sb1, ?sb2, ?sb3, ?sb4, ?sb5, ?sb6, ?sb7, ?sb8, ?sb9, ?sb10, ?sb11, ?sb12, ?sb13, ?sb14, ?sb15, ?sb16, ?sb17, ?sb18, ?sb19, ?sb20, trivial⟩ ?hEb
  case sb0 =>
    refine OpStepK.by_ ?_
    intro a x u ht hs hg hd K hK
    clear hd
    refine OpGoal.live (wanted_free (by kernel_rfl)) ?_
    have e7 : a.eval (Operand.tmp 7) = (.int .i64 (pa : Int) : Value) := (ht 7).trans (by kernel_rfl)
    clear ht hs
    refine BigFrame.wp_move _ rfl ?_
    exact hK.out _ _ (Kp.refl _) e7
  case sb1 =>
    refine OpStepK.by_ ?_
    intro a x u ht hs hg hd K hK
    clear hd
    refine OpGoal.live (wanted_free (by kernel_rfl)) ?_
    have e9 : a.eval (Operand.tmp 9) = (.int .i64 (n : Int) : Value) := (ht 9).trans (by kernel_rfl)
    clear ht hs
    refine BigFrame.wp_move _ rfl ?_
    exact hK.out _ _ (Kp.refl _) e9
  case sb2 =>
    refine OpStepK.by_ ?_
    intro a x u ht hs hg hd K hK
    have d0 : (x 0) = .int .i64 (pa : Int) := And.left hd
    have d1 : (x 1) = .int .i64 (n : Int) := And.left (And.right hd)
    clear hd
    refine OpGoal.live (wanted_free (by kernel_rfl)) ?_
    have e85 : a.tmps[85]? = some (.int .i64 (pa : Int) : Value) := (hs 85).trans (Eq.trans (b := some (x 0)) (by kernel_rfl) (by rw [d0]))
    have e86 : a.tmps[86]? = some (.int .i64 (n : Int) : Value) := (hs 86).trans (Eq.trans (b := some (x 1)) (by kernel_rfl) (by rw [d1]))
    clear d0 d1
    clear ht hs
    go_simp
    exact hK.out _ _ (Kp.refl _) rfl
  case sb3 =>
    refine OpStepK.by_ ?_
    intro a x u ht hs hg hd K hK
    clear hd
    refine OpGoal.live (wanted_free (by kernel_rfl)) ?_
    have e0 : a.eval (Operand.tmp 0) = (.string S : Value) := (ht 0).trans (by kernel_rfl)
    clear ht hs
    refine BigFrame.wp_move _ rfl ?_
    exact hK.out _ _ (Kp.refl _) e0
  case sb4 =>
    refine OpStepK.by_ ?_
    intro a x u ht hs hg hd K hK
    have d3 : (x 3) = .string S := And.left hd
    clear hd
    refine OpGoal.live (wanted_free (by kernel_rfl)) ?_
    have e88 : a.tmps[88]? = some (.string S : Value) := (hs 88).trans (Eq.trans (b := some (x 3)) (by kernel_rfl) (by rw [d3]))
    clear d3
    clear ht hs
    go_simp
    exact hK.out _ _ (Kp.refl _) rfl
  case sb5 =>
    refine OpStepK.by_ ?_
    intro a x u ht hs hg hd K hK
    have d2 : (x 2) = .int .i64 (m : Int) := And.left hd
    have d4 : (x 4) = .int .i64 (S.size : Int) := And.left (And.right hd)
    clear hd
    refine OpGoal.live (wanted_free (by kernel_rfl)) ?_
    have e87 : a.tmps[87]? = some (.int .i64 (m : Int) : Value) := (hs 87).trans (Eq.trans (b := some (x 2)) (by kernel_rfl) (by rw [d2]))
    have e89 : a.tmps[89]? = some (.int .i64 (S.size : Int) : Value) := (hs 89).trans (Eq.trans (b := some (x 4)) (by kernel_rfl) (by rw [d4]))
    clear d2 d4
    clear ht hs
    go_simp
    exact hK.out _ _ (Kp.refl _) rfl
  case sb6 =>
    refine OpStepK.by_ ?_
    intro a x u ht hs hg hd K hK
    have d5 : (x 5) = .bool true := And.left hd
    clear hd
    refine OpGoal.live (wanted_free (by kernel_rfl)) ?_
    have e90 : a.eval (Operand.tmp 90) = (.bool true : Value) := (ht 90).trans (Eq.trans (b := x 5) (by kernel_rfl) d5)
    clear d5
    clear ht hs
    refine BigFrame.wp_move _ rfl ?_
    exact hK.out _ _ (Kp.refl _) e90
  case sb7 =>
    refine OpStepK.by_ ?_
    intro a x u ht hs hg hd K hK
    have d6 : (x 6) = .bool true := And.left hd
    clear hd
    refine OpGoal.live (wanted_yes (j := 6) (d := 91) (by kernel_rfl) (by kernel_rfl) ((hs 91).trans (Eq.trans (b := some (x 6)) (by kernel_rfl) (by rw [d6])))) ?_
    have e0 : a.eval (Operand.tmp 0) = (.string S : Value) := (ht 0).trans (by kernel_rfl)
    clear d6
    clear ht hs
    refine BigFrame.wp_move _ rfl ?_
    exact hK.out _ _ (Kp.refl _) e0
  case sb8 =>
    refine OpStepK.by_ ?_
    intro a x u ht hs hg hd K hK
    have d6 : (x 6) = .bool true := And.left hd
    clear hd
    refine OpGoal.live (wanted_yes (j := 6) (d := 91) (by kernel_rfl) (by kernel_rfl) ((hs 91).trans (Eq.trans (b := some (x 6)) (by kernel_rfl) (by rw [d6])))) ?_
    have e7 : a.eval (Operand.tmp 7) = (.int .i64 (pa : Int) : Value) := (ht 7).trans (by kernel_rfl)
    clear d6
    clear ht hs
    refine BigFrame.wp_move _ rfl ?_
    exact hK.out _ _ (Kp.refl _) e7
  case sb9 =>
    refine OpStepK.by_ ?_
    intro a x u ht hs hg hd K hK
    have d6 : (x 6) = .bool true := And.left hd
    clear hd
    refine OpGoal.live (wanted_yes (j := 6) (d := 91) (by kernel_rfl) (by kernel_rfl) ((hs 91).trans (Eq.trans (b := some (x 6)) (by kernel_rfl) (by rw [d6])))) ?_
    have e7 : a.eval (Operand.tmp 7) = (.int .i64 (pa : Int) : Value) := (ht 7).trans (by kernel_rfl)
    clear d6
    clear ht hs
    refine BigFrame.wp_move _ rfl ?_
    exact hK.out _ _ (Kp.refl _) e7
  case sb10 =>
    refine OpStepK.by_ ?_
    intro a x u ht hs hg hd K hK
    have d6 : (x 6) = .bool true := And.left hd
    clear hd
    refine OpGoal.live (wanted_yes (j := 6) (d := 91) (by kernel_rfl) (by kernel_rfl) ((hs 91).trans (Eq.trans (b := some (x 6)) (by kernel_rfl) (by rw [d6])))) ?_
    have e9 : a.eval (Operand.tmp 9) = (.int .i64 (n : Int) : Value) := (ht 9).trans (by kernel_rfl)
    clear d6
    clear ht hs
    refine BigFrame.wp_move _ rfl ?_
    exact hK.out _ _ (Kp.refl _) e9
  case sb11 =>
    refine OpStepK.by_ ?_
    intro a x u ht hs hg hd K hK
    have d6 : (x 6) = .bool true := And.left hd
    have d9 : (x 9) = .int .i64 (pa : Int) := And.left (And.right hd)
    have d10 : (x 10) = .int .i64 (n : Int) := And.left (And.right (And.right hd))
    clear hd
    refine OpGoal.live (wanted_yes (j := 6) (d := 91) (by kernel_rfl) (by kernel_rfl) ((hs 91).trans (Eq.trans (b := some (x 6)) (by kernel_rfl) (by rw [d6])))) ?_
    have e94 : a.tmps[94]? = some (.int .i64 (pa : Int) : Value) := (hs 94).trans (Eq.trans (b := some (x 9)) (by kernel_rfl) (by rw [d9]))
    have e95 : a.tmps[95]? = some (.int .i64 (n : Int) : Value) := (hs 95).trans (Eq.trans (b := some (x 10)) (by kernel_rfl) (by rw [d10]))
    clear d6 d9 d10
    clear ht hs
    go_simp
    exact hK.out _ _ (Kp.refl _) rfl
  case sb12 =>
    refine OpStepK.by_ ?_
    intro a x u ht hs hg hd K hK
    have d6 : (x 6) = .bool true := And.left hd
    have d7 : (x 7) = .string S := And.left (And.right hd)
    have d8 : (x 8) = .int .i64 (pa : Int) := And.left (And.right (And.right hd))
    have d11 : (x 11) = .int .i64 (m : Int) := And.left (And.right (And.right (And.right hd)))
    clear hd
    refine OpGoal.live (wanted_yes (j := 6) (d := 91) (by kernel_rfl) (by kernel_rfl) ((hs 91).trans (Eq.trans (b := some (x 6)) (by kernel_rfl) (by rw [d6])))) ?_
    have e92 : a.tmps[92]? = some (.string S : Value) := (hs 92).trans (Eq.trans (b := some (x 7)) (by kernel_rfl) (by rw [d7]))
    have e93 : a.tmps[93]? = some (.int .i64 (pa : Int) : Value) := (hs 93).trans (Eq.trans (b := some (x 8)) (by kernel_rfl) (by rw [d8]))
    have e96 : a.tmps[96]? = some (.int .i64 (m : Int) : Value) := (hs 96).trans (Eq.trans (b := some (x 11)) (by kernel_rfl) (by rw [d11]))
    clear d6 d7 d8 d11
    clear ht hs
    go_simp
    exact hK.out _ _ (Kp.refl _) rfl
  case sb13 =>
    refine OpStepK.by_ ?_
    intro a x u ht hs hg hd K hK
    have d6 : (x 6) = .bool true := And.left hd
    clear hd
    refine OpGoal.live (wanted_yes (j := 6) (d := 91) (by kernel_rfl) (by kernel_rfl) ((hs 91).trans (Eq.trans (b := some (x 6)) (by kernel_rfl) (by rw [d6])))) ?_
    have e3 : a.eval (Operand.tmp 3) = (.slice (some ⟨b, off, none⟩) nl cl : Value) := (ht 3).trans (by kernel_rfl)
    clear d6
    clear ht hs
    refine BigFrame.wp_move _ rfl ?_
    exact hK.out _ _ (Kp.refl _) e3
  case sb14 =>
    refine OpStepK.by_ ?_
    intro a x u ht hs hg hd K hK
    have d6 : (x 6) = .bool true := And.left hd
    clear hd
    refine OpGoal.live (wanted_yes (j := 6) (d := 91) (by kernel_rfl) (by kernel_rfl) ((hs 91).trans (Eq.trans (b := some (x 6)) (by kernel_rfl) (by rw [d6])))) ?_
    have e8 : a.eval (Operand.tmp 8) = (.int .i64 (k : Int) : Value) := (ht 8).trans (by kernel_rfl)
    clear d6
    clear ht hs
    refine BigFrame.wp_move _ rfl ?_
    exact hK.out _ _ (Kp.refl _) e8
  case sb15 =>
    refine OpStepK.by_ ?_
    intro a x u ht hs hg hd K hK
    have d6 : (x 6) = .bool true := And.left hd
    have d13 : (x 13) = .slice (some ⟨b, off, none⟩) nl cl := And.left (And.right hd)
    have d14 : (x 14) = .int .i64 (k : Int) := And.left (And.right (And.right hd))
    clear hd
    refine OpGoal.live (wanted_yes (j := 6) (d := 91) (by kernel_rfl) (by kernel_rfl) ((hs 91).trans (Eq.trans (b := some (x 6)) (by kernel_rfl) (by rw [d6])))) ?_
    have e98 : a.tmps[98]? = some (.slice (some ⟨b, off, none⟩) nl cl : Value) := (hs 98).trans (Eq.trans (b := some (x 13)) (by kernel_rfl) (by rw [d13]))
    have e99 : a.tmps[99]? = some (.int .i64 (k : Int) : Value) := (hs 99).trans (Eq.trans (b := some (x 14)) (by kernel_rfl) (by rw [d14]))
    clear d6 d13 d14
    clear ht hs
    go_simp
    exact hK.out _ _ (Kp.refl _) rfl
  case sb16 =>
    refine OpStepK.by_ ?_
    intro a x u ht hs hg hd K hK
    have d6 : (x 6) = .bool true := And.left hd
    have d15 : (x 15) = .pointer (some ⟨b, off + k * 4, none⟩) := And.left (And.right hd)
    clear hd
    refine OpGoal.live (wanted_yes (j := 6) (d := 91) (by kernel_rfl) (by kernel_rfl) ((hs 91).trans (Eq.trans (b := some (x 6)) (by kernel_rfl) (by rw [d6])))) ?_
    have e100 : a.tmps[100]? = some (.pointer (some ⟨b, off + k * 4, none⟩) : Value) := (hs 100).trans (Eq.trans (b := some (x 15)) (by kernel_rfl) (by rw [d15]))
    clear d6 d15
    clear ht hs
    go_simp
    exact hK.out _ _ (Kp.refl _) rfl
  case sb17 =>
    refine OpStepK.by_ ?_
    intro a x u ht hs hg hd K hK
    have d6 : (x 6) = .bool true := And.left hd
    have d16 : (x 16) = .pointer (some ⟨b, off + k * 4 + 1, none⟩) := And.left (And.right hd)
    clear hd
    refine OpGoal.live (wanted_yes (j := 6) (d := 91) (by kernel_rfl) (by kernel_rfl) ((hs 91).trans (Eq.trans (b := some (x 6)) (by kernel_rfl) (by rw [d6])))) ?_
    have e101 : a.tmps[101]? = some (.pointer (some ⟨b, off + k * 4 + 1, none⟩) : Value) := (hs 101).trans (Eq.trans (b := some (x 16)) (by kernel_rfl) (by rw [d16]))
    clear d6 d16
    clear ht hs
    have q0 := cell_kp hg hb T1
    go_simp
    exact hK.out _ _ (Kp.refl _) rfl
  case sb18 =>
    refine OpStepK.by_ ?_
    intro a x u ht hs hg hd K hK
    have d6 : (x 6) = .bool true := And.left hd
    have d12 : (x 12) = .string s := And.left (And.right hd)
    have d17 : (x 17) = .string s := And.left (And.right (And.right hd))
    clear hd
    refine OpGoal.live (wanted_yes (j := 6) (d := 91) (by kernel_rfl) (by kernel_rfl) ((hs 91).trans (Eq.trans (b := some (x 6)) (by kernel_rfl) (by rw [d6])))) ?_
    have e97 : a.tmps[97]? = some (.string s : Value) := (hs 97).trans (Eq.trans (b := some (x 12)) (by kernel_rfl) (by rw [d12]))
    have e102 : a.tmps[102]? = some (.string s : Value) := (hs 102).trans (Eq.trans (b := some (x 17)) (by kernel_rfl) (by rw [d17]))
    clear d6 d12 d17
    clear ht hs
    go_simp
    exact hK.out _ _ (Kp.refl _) rfl
  case sb19 =>
    refine OpStepK.by_ ?_
    intro a x u ht hs hg hd K hK
    have d6 : (x 6) = .bool true := And.left hd
    have d18 : (x 18) = .bool true := And.left (And.right hd)
    clear hd
    refine OpGoal.live (wanted_free (by kernel_rfl)) ?_
    have e91 : a.tmps[91]? = some (.bool true : Value) := (hs 91).trans (Eq.trans (b := some (x 6)) (by kernel_rfl) (by rw [d6]))
    have e103 : a.tmps[103]? = some (.bool true : Value) := (hs 103).trans (Eq.trans (b := some (x 18)) (by kernel_rfl) (by rw [d18]))
    clear d6 d18
    clear ht hs
    go_simp
    exact hK.out _ _ (Kp.refl _) rfl
  case sb20 =>
    refine OpStepK.by_ ?_
    intro a x u ht hs hg hd K hK
    have d19 : (x 19) = .bool true := And.left hd
    clear hd
    refine OpGoal.live (wanted_free (by kernel_rfl)) ?_
    have e104 : a.eval (Operand.tmp 104) = (.bool true : Value) := (ht 104).trans (Eq.trans (b := x 19) (by kernel_rfl) d19)
    clear d19
    clear ht hs
    refine BigFrame.wp_assign _ rfl ?_
    exact hK.out _ _ (Kp.refl _) e104
  intro x u hg he
  have d0 : (x 0) = .int .i64 (pa : Int) := And.left he
  have d1 : (x 1) = .int .i64 (n : Int) := And.left (And.right he)
  have d2 : (x 2) = .int .i64 (m : Int) := And.left (And.right (And.right he))
  have d3 : (x 3) = .string S := And.left (And.right (And.right (And.right he)))
  have d4 : (x 4) = .int .i64 (S.size : Int) := And.left (And.right (And.right (And.right (And.right he))))
  have d5 : (x 5) = .bool true := And.left (And.right (And.right (And.right (And.right (And.right he)))))
  have d6 : (x 6) = .bool true := And.left (And.right (And.right (And.right (And.right (And.right (And.right he))))))
  have d7 : (x 7) = .string S := And.left (And.right (And.right (And.right (And.right (And.right (And.right (And.right he)))))))
  have d8 : (x 8) = .int .i64 (pa : Int) := And.left (And.right (And.right (And.right (And.right (And.right (And.right (And.right (And.right he))))))))
  have d9 : (x 9) = .int .i64 (pa : Int) := And.left (And.right (And.right (And.right (And.right (And.right (And.right (And.right (And.right (And.right he)))))))))
  have d10 : (x 10) = .int .i64 (n : Int) := And.left (And.right (And.right (And.right (And.right (And.right (And.right (And.right (And.right (And.right (And.right he))))))))))
  have d11 : (x 11) = .int .i64 (m : Int) := And.left (And.right (And.right (And.right (And.right (And.right (And.right (And.right (And.right (And.right (And.right (And.right he)))))))))))
  have d12 : (x 12) = .string s := And.left (And.right (And.right (And.right (And.right (And.right (And.right (And.right (And.right (And.right (And.right (And.right (And.right he))))))))))))
  have d13 : (x 13) = .slice (some ⟨b, off, none⟩) nl cl := And.left (And.right (And.right (And.right (And.right (And.right (And.right (And.right (And.right (And.right (And.right (And.right (And.right (And.right he)))))))))))))
  have d14 : (x 14) = .int .i64 (k : Int) := And.left (And.right (And.right (And.right (And.right (And.right (And.right (And.right (And.right (And.right (And.right (And.right (And.right (And.right (And.right he))))))))))))))
  have d15 : (x 15) = .pointer (some ⟨b, off + k * 4, none⟩) := And.left (And.right (And.right (And.right (And.right (And.right (And.right (And.right (And.right (And.right (And.right (And.right (And.right (And.right (And.right (And.right he)))))))))))))))
  have d16 : (x 16) = .pointer (some ⟨b, off + k * 4 + 1, none⟩) := And.left (And.right (And.right (And.right (And.right (And.right (And.right (And.right (And.right (And.right (And.right (And.right (And.right (And.right (And.right (And.right (And.right he))))))))))))))))
  have d17 : (x 17) = .string s := And.left (And.right (And.right (And.right (And.right (And.right (And.right (And.right (And.right (And.right (And.right (And.right (And.right (And.right (And.right (And.right (And.right (And.right he)))))))))))))))))
  have d18 : (x 18) = .bool true := And.left (And.right (And.right (And.right (And.right (And.right (And.right (And.right (And.right (And.right (And.right (And.right (And.right (And.right (And.right (And.right (And.right (And.right (And.right he))))))))))))))))))
  have d19 : (x 19) = .bool true := And.left (And.right (And.right (And.right (And.right (And.right (And.right (And.right (And.right (And.right (And.right (And.right (And.right (And.right (And.right (And.right (And.right (And.right (And.right (And.right he)))))))))))))))))))
  have d20 : (x 20) = .bool true := And.left (And.right (And.right (And.right (And.right (And.right (And.right (And.right (And.right (And.right (And.right (And.right (And.right (And.right (And.right (And.right (And.right (And.right (And.right (And.right (And.right he))))))))))))))))))))
  clear he
  refine ⟨?_⟩
  simp only [putsFrom, Act.put, List.setIfInBounds_toArray, List.set_cons_zero, List.set_cons_succ, Nat.reduceAdd, d0, d1, d2, d3, d4, d5, d6, d7, d8, d9, d10, d11, d12, d13, d14, d15, d16, d17, d18, d19, d20]
  clear d0 d1 d2 d3 d4 d5 d6 d7 d8 d9 d10 d11 d12 d13 d14 d15 d16 d17 d18 d19 d20
  exact hE _ hg
set_option maxRecDepth 20000 in
set_option maxHeartbeats 4000000 in
theorem pl17b {W : World} {Q : Exit → Act → World → Prop} {s1 s2 s4 s5 s6 s10 s11 s12 s13 s14 s15 s16 s17 s18 s19 s20 s21 s22 s23 s24 s25 s26 s27 s28 s29 s30 s31 s32 s33 s34 s35 s36 s37 s38 s39 s40 s41 s42 s43 s44 s45 s46 s47 s48 s49 s50 s51 s52 s53 s54 s55 s56 s57 s58 s59 s60 s61 s62 s63 s64 s65 s66 s67 s68 s69 s70 s71 s72 s73 s74 s75 s76 s77 s78 s79 s80 s81 s82 s83 s84 s85 s86 s87 s88 s89 s90 s91 s92 s93 s94 s95 s96 s97 s98 s99 s100 s101 s102 s103 s104 s105 s106 s107 s108 s109 s110 s111 s112 s113 s114 s115 s116 s117 s118 s119 s120 s121 s122 s123 s124 s125 s126 s127 s128 s129 s130 s131 s132 s133 s134 s135 s136 : Value} (S : ByteArray) (b off nl cl k pa n m : Nat) (j1 : IntKind.i64.wrap ((pa : Int) + (n : Int)) = (m : Int)) (j2 : ¬ (m : Int) ≤ (S.size : Int))
    (hE : ∀ u, Kp W u → Q .normal { tmps := #[.string S, s1, s2, .slice (some ⟨b, off, none⟩) nl cl, s4, s5, s6, .int .i64 (pa : Int), .int .i64 (k : Int), .int .i64 (n : Int), .bool false, s11, s12, s13, s14, s15, s16, s17, s18, s19, s20, s21, s22, s23, s24, s25, s26, s27, s28, s29, s30, s31, s32, s33, s34, s35, s36, s37, s38, s39, s40, s41, s42, s43, s44, s45, s46, s47, s48, s49, s50, s51, s52, s53, s54, s55, s56, s57, s58, s59, s60, s61, s62, s63, s64, s65, s66, s67, s68, s69, s70, s71, s72, s73, s74, s75, s76, s77, s78, s79, s80, s81, s82, s83, s84, .int .i64 (pa : Int), .int .i64 (n : Int), .int .i64 (m : Int), .string S, .int .i64 (S.size : Int), .bool false, .bool false, undef, undef, undef, undef, undef, undef, undef, undef, undef, undef, undef, undef, .bool false, s105, s106, s107, s108, s109, s110, s111, s112, s113, s114, s115, s116, s117, s118, s119, s120, s121, s122, s123, s124, s125, s126, s127, s128, s129, s130, s131, s132, s133, s134, s135, s136], defers := [] } u) :
    (Code.region 17 (regArr Try.f5 17) true).wp Try.prog Q { tmps := #[.string S, s1, s2, .slice (some ⟨b, off, none⟩) nl cl, s4, s5, s6, .int .i64 (pa : Int), .int .i64 (k : Int), .int .i64 (n : Int), s10, s11, s12, s13, s14, s15, s16, s17, s18, s19, s20, s21, s22, s23, s24, s25, s26, s27, s28, s29, s30, s31, s32, s33, s34, s35, s36, s37, s38, s39, s40, s41, s42, s43, s44, s45, s46, s47, s48, s49, s50, s51, s52, s53, s54, s55, s56, s57, s58, s59, s60, s61, s62, s63, s64, s65, s66, s67, s68, s69, s70, s71, s72, s73, s74, s75, s76, s77, s78, s79, s80, s81, s82, s83, s84, s85, s86, s87, s88, s89, s90, s91, s92, s93, s94, s95, s96, s97, s98, s99, s100, s101, s102, s103, s104, s105, s106, s107, s108, s109, s110, s111, s112, s113, s114, s115, s116, s117, s118, s119, s120, s121, s122, s123, s124, s125, s126, s127, s128, s129, s130, s131, s132, s133, s134, s135, s136], defers := [] } W := by
  simp only [regArr, Try.f5, Option.map_some, Option.getD_some, regOf, if_true, if_false, List.append_nil, List.nil_append, List.toList_toArray, Nat.reduceEqDiff, reduceIte]
  refine wp_region_kp [[], [], [0, 1], [], [3], [2, 4], [5], [6], [6], [6], [6], [6, 9, 10], [6, 7, 8, 11], [6], [6], [6, 13, 14], [6, 15], [6, 16], [6, 12, 17], [6, 18], [19]] (fun u => Kp W u)
    [fun (y : Value) (u : World) => y = (.int .i64 (pa : Int) : Value),
     fun (y : Value) (u : World) => y = (.int .i64 (n : Int) : Value),
     fun (y : Value) (u : World) => y = (.int .i64 (m : Int) : Value),
     fun (y : Value) (u : World) => y = (.string S : Value),
     fun (y : Value) (u : World) => y = (.int .i64 (S.size : Int) : Value),
     fun (y : Value) (u : World) => y = (.bool false : Value),
     fun (y : Value) (u : World) => y = (.bool false : Value),
     fun (y : Value) (u : World) => y = (undef : Value),
     fun (y : Value) (u : World) => y = (undef : Value),
     fun (y : Value) (u : World) => y = (undef : Value),
     fun (y : Value) (u : World) => y = (undef : Value),
     fun (y : Value) (u : World) => y = (undef : Value),
     fun (y : Value) (u : World) => y = (undef : Value),
     fun (y : Value) (u : World) => y = (undef : Value),
     fun (y : Value) (u : World) => y = (undef : Value),
     fun (y : Value) (u : World) => y = (undef : Value),
     fun (y : Value) (u : World) => y = (undef : Value),
     fun (y : Value) (u : World) => y = (undef : Value),
     fun (y : Value) (u : World) => y = (undef : Value),
     fun (y : Value) (u : World) => y = (.bool false : Value),
     fun (y : Value) (u : World) => y = (.bool false : Value)]
    (by kernel_rfl) (by kernel_rfl) (by kernel_rfl) (by kernel_rfl) ((Kp.refl _).drew) (fun _ _ hk h => h.trans hk) ⟨fun _ _ _ _ h => h, fun _ _ _ _ h => h, fun _ _ _ _ h => h, fun _ _ _ _ h => h, fun _ _ _ _ h => h, fun _ _ _ _ h => h, fun _ _ _ _ h => h, fun _ _ _ _ h => h, fun _ _ _ _ h => h, fun _ _ _ _ h => h, fun _ _ _ _ h => h, fun _ _ _ _ h => h, fun _ _ _ _ h => h, fun _ _ _ _ h => h, fun _ _ _ _ h => h, fun _ _ _ _ h => h, fun _ _ _ _ h => h, fun _ _ _ _ h => h, fun _ _ _ _ h => h, fun _ _ _ _ h => h, fun _ _ _ _ h => h, trivial⟩ ⟨?sc0, ?sc1, ?sc2, ?sc3, ?sc4, ?sc5, ?sc6, ?sc7, ?sc8, ?sc9, ?sc10, ?sc11, ?sc12, ?sc13, ?sc14, ?sc15, ?sc16, ?sc17, ?sc18, ?sc19, ?sc20, trivial⟩ ?hEc
  case sc0 =>
    refine OpStepK.by_ ?_
    intro a x u ht hs hg hd K hK
    clear hd
    refine OpGoal.live (wanted_free (by kernel_rfl)) ?_
    have e7 : a.eval (Operand.tmp 7) = (.int .i64 (pa : Int) : Value) := (ht 7).trans (by kernel_rfl)
    clear ht hs
    refine BigFrame.wp_move _ rfl ?_
    exact hK.out _ _ (Kp.refl _) e7
  case sc1 =>
    refine OpStepK.by_ ?_
    intro a x u ht hs hg hd K hK
    clear hd
    refine OpGoal.live (wanted_free (by kernel_rfl)) ?_
    have e9 : a.eval (Operand.tmp 9) = (.int .i64 (n : Int) : Value) := (ht 9).trans (by kernel_rfl)
    clear ht hs
    refine BigFrame.wp_move _ rfl ?_
    exact hK.out _ _ (Kp.refl _) e9
  case sc2 =>
    refine OpStepK.by_ ?_
    intro a x u ht hs hg hd K hK
    have d0 : (x 0) = .int .i64 (pa : Int) := And.left hd
    have d1 : (x 1) = .int .i64 (n : Int) := And.left (And.right hd)
    clear hd
    refine OpGoal.live (wanted_free (by kernel_rfl)) ?_
    have e85 : a.tmps[85]? = some (.int .i64 (pa : Int) : Value) := (hs 85).trans (Eq.trans (b := some (x 0)) (by kernel_rfl) (by rw [d0]))
    have e86 : a.tmps[86]? = some (.int .i64 (n : Int) : Value) := (hs 86).trans (Eq.trans (b := some (x 1)) (by kernel_rfl) (by rw [d1]))
    clear d0 d1
    clear ht hs
    go_simp
    exact hK.out _ _ (Kp.refl _) rfl
  case sc3 =>
    refine OpStepK.by_ ?_
    intro a x u ht hs hg hd K hK
    clear hd
    refine OpGoal.live (wanted_free (by kernel_rfl)) ?_
    have e0 : a.eval (Operand.tmp 0) = (.string S : Value) := (ht 0).trans (by kernel_rfl)
    clear ht hs
    refine BigFrame.wp_move _ rfl ?_
    exact hK.out _ _ (Kp.refl _) e0
  case sc4 =>
    refine OpStepK.by_ ?_
    intro a x u ht hs hg hd K hK
    have d3 : (x 3) = .string S := And.left hd
    clear hd
    refine OpGoal.live (wanted_free (by kernel_rfl)) ?_
    have e88 : a.tmps[88]? = some (.string S : Value) := (hs 88).trans (Eq.trans (b := some (x 3)) (by kernel_rfl) (by rw [d3]))
    clear d3
    clear ht hs
    go_simp
    exact hK.out _ _ (Kp.refl _) rfl
  case sc5 =>
    refine OpStepK.by_ ?_
    intro a x u ht hs hg hd K hK
    have d2 : (x 2) = .int .i64 (m : Int) := And.left hd
    have d4 : (x 4) = .int .i64 (S.size : Int) := And.left (And.right hd)
    clear hd
    refine OpGoal.live (wanted_free (by kernel_rfl)) ?_
    have e87 : a.tmps[87]? = some (.int .i64 (m : Int) : Value) := (hs 87).trans (Eq.trans (b := some (x 2)) (by kernel_rfl) (by rw [d2]))
    have e89 : a.tmps[89]? = some (.int .i64 (S.size : Int) : Value) := (hs 89).trans (Eq.trans (b := some (x 4)) (by kernel_rfl) (by rw [d4]))
    clear d2 d4
    clear ht hs
    go_simp
    exact hK.out _ _ (Kp.refl _) rfl
  case sc6 =>
    refine OpStepK.by_ ?_
    intro a x u ht hs hg hd K hK
    have d5 : (x 5) = .bool false := And.left hd
    clear hd
    refine OpGoal.live (wanted_free (by kernel_rfl)) ?_
    have e90 : a.eval (Operand.tmp 90) = (.bool false : Value) := (ht 90).trans (Eq.trans (b := x 5) (by kernel_rfl) d5)
    clear d5
    clear ht hs
    refine BigFrame.wp_move _ rfl ?_
    exact hK.out _ _ (Kp.refl _) e90
  case sc7 =>
    refine OpStepK.by_ ?_
    intro a x u ht hs hg hd K hK
    have d6 : (x 6) = .bool false := And.left hd
    clear hd
    refine OpGoal.dead (wanted_no (j := 6) (d := 91) (b := true) (c := false) (by kernel_rfl) (by kernel_rfl) ((hs 91).trans (Eq.trans (b := some (x 6)) (by kernel_rfl) (by rw [d6]))) (by decide)) ?_
    exact hK.out _ _ (Kp.refl _) rfl
  case sc8 =>
    refine OpStepK.by_ ?_
    intro a x u ht hs hg hd K hK
    have d6 : (x 6) = .bool false := And.left hd
    clear hd
    refine OpGoal.dead (wanted_no (j := 6) (d := 91) (b := true) (c := false) (by kernel_rfl) (by kernel_rfl) ((hs 91).trans (Eq.trans (b := some (x 6)) (by kernel_rfl) (by rw [d6]))) (by decide)) ?_
    exact hK.out _ _ (Kp.refl _) rfl
  case sc9 =>
    refine OpStepK.by_ ?_
    intro a x u ht hs hg hd K hK
    have d6 : (x 6) = .bool false := And.left hd
    clear hd
    refine OpGoal.dead (wanted_no (j := 6) (d := 91) (b := true) (c := false) (by kernel_rfl) (by kernel_rfl) ((hs 91).trans (Eq.trans (b := some (x 6)) (by kernel_rfl) (by rw [d6]))) (by decide)) ?_
    exact hK.out _ _ (Kp.refl _) rfl
  case sc10 =>
    refine OpStepK.by_ ?_
    intro a x u ht hs hg hd K hK
    have d6 : (x 6) = .bool false := And.left hd
    clear hd
    refine OpGoal.dead (wanted_no (j := 6) (d := 91) (b := true) (c := false) (by kernel_rfl) (by kernel_rfl) ((hs 91).trans (Eq.trans (b := some (x 6)) (by kernel_rfl) (by rw [d6]))) (by decide)) ?_
    exact hK.out _ _ (Kp.refl _) rfl
  case sc11 =>
    refine OpStepK.by_ ?_
    intro a x u ht hs hg hd K hK
    have d6 : (x 6) = .bool false := And.left hd
    have d9 : (x 9) = undef := And.left (And.right hd)
    have d10 : (x 10) = undef := And.left (And.right (And.right hd))
    clear hd
    refine OpGoal.dead (wanted_no (j := 6) (d := 91) (b := true) (c := false) (by kernel_rfl) (by kernel_rfl) ((hs 91).trans (Eq.trans (b := some (x 6)) (by kernel_rfl) (by rw [d6]))) (by decide)) ?_
    exact hK.out _ _ (Kp.refl _) rfl
  case sc12 =>
    refine OpStepK.by_ ?_
    intro a x u ht hs hg hd K hK
    have d6 : (x 6) = .bool false := And.left hd
    have d7 : (x 7) = undef := And.left (And.right hd)
    have d8 : (x 8) = undef := And.left (And.right (And.right hd))
    have d11 : (x 11) = undef := And.left (And.right (And.right (And.right hd)))
    clear hd
    refine OpGoal.dead (wanted_no (j := 6) (d := 91) (b := true) (c := false) (by kernel_rfl) (by kernel_rfl) ((hs 91).trans (Eq.trans (b := some (x 6)) (by kernel_rfl) (by rw [d6]))) (by decide)) ?_
    exact hK.out _ _ (Kp.refl _) rfl
  case sc13 =>
    refine OpStepK.by_ ?_
    intro a x u ht hs hg hd K hK
    have d6 : (x 6) = .bool false := And.left hd
    clear hd
    refine OpGoal.dead (wanted_no (j := 6) (d := 91) (b := true) (c := false) (by kernel_rfl) (by kernel_rfl) ((hs 91).trans (Eq.trans (b := some (x 6)) (by kernel_rfl) (by rw [d6]))) (by decide)) ?_
    exact hK.out _ _ (Kp.refl _) rfl
  case sc14 =>
    refine OpStepK.by_ ?_
    intro a x u ht hs hg hd K hK
    have d6 : (x 6) = .bool false := And.left hd
    clear hd
    refine OpGoal.dead (wanted_no (j := 6) (d := 91) (b := true) (c := false) (by kernel_rfl) (by kernel_rfl) ((hs 91).trans (Eq.trans (b := some (x 6)) (by kernel_rfl) (by rw [d6]))) (by decide)) ?_
    exact hK.out _ _ (Kp.refl _) rfl
  case sc15 =>
    refine OpStepK.by_ ?_
    intro a x u ht hs hg hd K hK
    have d6 : (x 6) = .bool false := And.left hd
    have d13 : (x 13) = undef := And.left (And.right hd)
    have d14 : (x 14) = undef := And.left (And.right (And.right hd))
    clear hd
    refine OpGoal.dead (wanted_no (j := 6) (d := 91) (b := true) (c := false) (by kernel_rfl) (by kernel_rfl) ((hs 91).trans (Eq.trans (b := some (x 6)) (by kernel_rfl) (by rw [d6]))) (by decide)) ?_
    exact hK.out _ _ (Kp.refl _) rfl
  case sc16 =>
    refine OpStepK.by_ ?_
    intro a x u ht hs hg hd K hK
    have d6 : (x 6) = .bool false := And.left hd
    have d15 : (x 15) = undef := And.left (And.right hd)
    clear hd
    refine OpGoal.dead (wanted_no (j := 6) (d := 91) (b := true) (c := false) (by kernel_rfl) (by kernel_rfl) ((hs 91).trans (Eq.trans (b := some (x 6)) (by kernel_rfl) (by rw [d6]))) (by decide)) ?_
    exact hK.out _ _ (Kp.refl _) rfl
  case sc17 =>
    refine OpStepK.by_ ?_
    intro a x u ht hs hg hd K hK
    have d6 : (x 6) = .bool false := And.left hd
    have d16 : (x 16) = undef := And.left (And.right hd)
    clear hd
    refine OpGoal.dead (wanted_no (j := 6) (d := 91) (b := true) (c := false) (by kernel_rfl) (by kernel_rfl) ((hs 91).trans (Eq.trans (b := some (x 6)) (by kernel_rfl) (by rw [d6]))) (by decide)) ?_
    exact hK.out _ _ (Kp.refl _) rfl
  case sc18 =>
    refine OpStepK.by_ ?_
    intro a x u ht hs hg hd K hK
    have d6 : (x 6) = .bool false := And.left hd
    have d12 : (x 12) = undef := And.left (And.right hd)
    have d17 : (x 17) = undef := And.left (And.right (And.right hd))
    clear hd
    refine OpGoal.dead (wanted_no (j := 6) (d := 91) (b := true) (c := false) (by kernel_rfl) (by kernel_rfl) ((hs 91).trans (Eq.trans (b := some (x 6)) (by kernel_rfl) (by rw [d6]))) (by decide)) ?_
    exact hK.out _ _ (Kp.refl _) rfl
  case sc19 =>
    refine OpStepK.by_ ?_
    intro a x u ht hs hg hd K hK
    have d6 : (x 6) = .bool false := And.left hd
    have d18 : (x 18) = undef := And.left (And.right hd)
    clear hd
    refine OpGoal.live (wanted_free (by kernel_rfl)) ?_
    have e91 : a.tmps[91]? = some (.bool false : Value) := (hs 91).trans (Eq.trans (b := some (x 6)) (by kernel_rfl) (by rw [d6]))
    have e103 : a.tmps[103]? = some (undef : Value) := (hs 103).trans (Eq.trans (b := some (x 18)) (by kernel_rfl) (by rw [d18]))
    clear d6 d18
    clear ht hs
    go_simp
    exact hK.out _ _ (Kp.refl _) rfl
  case sc20 =>
    refine OpStepK.by_ ?_
    intro a x u ht hs hg hd K hK
    have d19 : (x 19) = .bool false := And.left hd
    clear hd
    refine OpGoal.live (wanted_free (by kernel_rfl)) ?_
    have e104 : a.eval (Operand.tmp 104) = (.bool false : Value) := (ht 104).trans (Eq.trans (b := x 19) (by kernel_rfl) d19)
    clear d19
    clear ht hs
    refine BigFrame.wp_assign _ rfl ?_
    exact hK.out _ _ (Kp.refl _) e104
  intro x u hg he
  have d0 : (x 0) = .int .i64 (pa : Int) := And.left he
  have d1 : (x 1) = .int .i64 (n : Int) := And.left (And.right he)
  have d2 : (x 2) = .int .i64 (m : Int) := And.left (And.right (And.right he))
  have d3 : (x 3) = .string S := And.left (And.right (And.right (And.right he)))
  have d4 : (x 4) = .int .i64 (S.size : Int) := And.left (And.right (And.right (And.right (And.right he))))
  have d5 : (x 5) = .bool false := And.left (And.right (And.right (And.right (And.right (And.right he)))))
  have d6 : (x 6) = .bool false := And.left (And.right (And.right (And.right (And.right (And.right (And.right he))))))
  have d7 : (x 7) = undef := And.left (And.right (And.right (And.right (And.right (And.right (And.right (And.right he)))))))
  have d8 : (x 8) = undef := And.left (And.right (And.right (And.right (And.right (And.right (And.right (And.right (And.right he))))))))
  have d9 : (x 9) = undef := And.left (And.right (And.right (And.right (And.right (And.right (And.right (And.right (And.right (And.right he)))))))))
  have d10 : (x 10) = undef := And.left (And.right (And.right (And.right (And.right (And.right (And.right (And.right (And.right (And.right (And.right he))))))))))
  have d11 : (x 11) = undef := And.left (And.right (And.right (And.right (And.right (And.right (And.right (And.right (And.right (And.right (And.right (And.right he)))))))))))
  have d12 : (x 12) = undef := And.left (And.right (And.right (And.right (And.right (And.right (And.right (And.right (And.right (And.right (And.right (And.right (And.right he))))))))))))
  have d13 : (x 13) = undef := And.left (And.right (And.right (And.right (And.right (And.right (And.right (And.right (And.right (And.right (And.right (And.right (And.right (And.right he)))))))))))))
  have d14 : (x 14) = undef := And.left (And.right (And.right (And.right (And.right (And.right (And.right (And.right (And.right (And.right (And.right (And.right (And.right (And.right (And.right he))))))))))))))
  have d15 : (x 15) = undef := And.left (And.right (And.right (And.right (And.right (And.right (And.right (And.right (And.right (And.right (And.right (And.right (And.right (And.right (And.right (And.right he)))))))))))))))
  have d16 : (x 16) = undef := And.left (And.right (And.right (And.right (And.right (And.right (And.right (And.right (And.right (And.right (And.right (And.right (And.right (And.right (And.right (And.right (And.right he))))))))))))))))
  have d17 : (x 17) = undef := And.left (And.right (And.right (And.right (And.right (And.right (And.right (And.right (And.right (And.right (And.right (And.right (And.right (And.right (And.right (And.right (And.right (And.right he)))))))))))))))))
  have d18 : (x 18) = undef := And.left (And.right (And.right (And.right (And.right (And.right (And.right (And.right (And.right (And.right (And.right (And.right (And.right (And.right (And.right (And.right (And.right (And.right (And.right he))))))))))))))))))
  have d19 : (x 19) = .bool false := And.left (And.right (And.right (And.right (And.right (And.right (And.right (And.right (And.right (And.right (And.right (And.right (And.right (And.right (And.right (And.right (And.right (And.right (And.right (And.right he)))))))))))))))))))
  have d20 : (x 20) = .bool false := And.left (And.right (And.right (And.right (And.right (And.right (And.right (And.right (And.right (And.right (And.right (And.right (And.right (And.right (And.right (And.right (And.right (And.right (And.right (And.right (And.right he))))))))))))))))))))
  clear he
  refine ⟨?_⟩
  simp only [putsFrom, Act.put, List.setIfInBounds_toArray, List.set_cons_zero, List.set_cons_succ, Nat.reduceAdd, d0, d1, d2, d3, d4, d5, d6, d7, d8, d9, d10, d11, d12, d13, d14, d15, d16, d17, d18, d19, d20]
  clear d0 d1 d2 d3 d4 d5 d6 d7 d8 d9 d10 d11 d12 d13 d14 d15 d16 d17 d18 d19 d20
  exact hE _ hg
set_option maxRecDepth 20000 in
set_option maxHeartbeats 4000000 in
theorem pl17c {W : World} {Q : Exit → Act → World → Prop} {s1 s2 s4 s5 s6 s10 s11 s12 s13 s14 s15 s16 s17 s18 s19 s20 s21 s22 s23 s24 s25 s26 s27 s28 s29 s30 s31 s32 s33 s34 s35 s36 s37 s38 s39 s40 s41 s42 s43 s44 s45 s46 s47 s48 s49 s50 s51 s52 s53 s54 s55 s56 s57 s58 s59 s60 s61 s62 s63 s64 s65 s66 s67 s68 s69 s70 s71 s72 s73 s74 s75 s76 s77 s78 s79 s80 s81 s82 s83 s84 s85 s86 s87 s88 s89 s90 s91 s92 s93 s94 s95 s96 s97 s98 s99 s100 s101 s102 s103 s104 s105 s106 s107 s108 s109 s110 s111 s112 s113 s114 s115 s116 s117 s118 s119 s120 s121 s122 s123 s124 s125 s126 s127 s128 s129 s130 s131 s132 s133 s134 s135 s136 : Value} (S s x0 : ByteArray) (b off nl cl k pa n m : Nat) (hb : b < W.heap.size) (T1 : W.cell? ⟨b, off + k * 4 + 1, none⟩ = some (.string s)) (i1 : (k : Int) < (nl : Int)) (j1 : IntKind.i64.wrap ((pa : Int) + (n : Int)) = (m : Int)) (j2 : (m : Int) ≤ (S.size : Int)) (j3 : (0 : Int) ≤ (pa : Int)) (j4 : (pa : Int) ≤ (m : Int)) (hx : S.extract pa m = x0) (hq : (x0.toList == s.toList) = false)
    (hE : ∀ u, Kp W u → Q .normal { tmps := #[.string S, s1, s2, .slice (some ⟨b, off, none⟩) nl cl, s4, s5, s6, .int .i64 (pa : Int), .int .i64 (k : Int), .int .i64 (n : Int), .bool false, s11, s12, s13, s14, s15, s16, s17, s18, s19, s20, s21, s22, s23, s24, s25, s26, s27, s28, s29, s30, s31, s32, s33, s34, s35, s36, s37, s38, s39, s40, s41, s42, s43, s44, s45, s46, s47, s48, s49, s50, s51, s52, s53, s54, s55, s56, s57, s58, s59, s60, s61, s62, s63, s64, s65, s66, s67, s68, s69, s70, s71, s72, s73, s74, s75, s76, s77, s78, s79, s80, s81, s82, s83, s84, .int .i64 (pa : Int), .int .i64 (n : Int), .int .i64 (m : Int), .string S, .int .i64 (S.size : Int), .bool true, .bool true, .string S, .int .i64 (pa : Int), .int .i64 (pa : Int), .int .i64 (n : Int), .int .i64 (m : Int), .string x0, .slice (some ⟨b, off, none⟩) nl cl, .int .i64 (k : Int), .pointer (some ⟨b, off + k * 4, none⟩), .pointer (some ⟨b, off + k * 4 + 1, none⟩), .string s, .bool false, .bool false, s105, s106, s107, s108, s109, s110, s111, s112, s113, s114, s115, s116, s117, s118, s119, s120, s121, s122, s123, s124, s125, s126, s127, s128, s129, s130, s131, s132, s133, s134, s135, s136], defers := [] } u) :
    (Code.region 17 (regArr Try.f5 17) true).wp Try.prog Q { tmps := #[.string S, s1, s2, .slice (some ⟨b, off, none⟩) nl cl, s4, s5, s6, .int .i64 (pa : Int), .int .i64 (k : Int), .int .i64 (n : Int), s10, s11, s12, s13, s14, s15, s16, s17, s18, s19, s20, s21, s22, s23, s24, s25, s26, s27, s28, s29, s30, s31, s32, s33, s34, s35, s36, s37, s38, s39, s40, s41, s42, s43, s44, s45, s46, s47, s48, s49, s50, s51, s52, s53, s54, s55, s56, s57, s58, s59, s60, s61, s62, s63, s64, s65, s66, s67, s68, s69, s70, s71, s72, s73, s74, s75, s76, s77, s78, s79, s80, s81, s82, s83, s84, s85, s86, s87, s88, s89, s90, s91, s92, s93, s94, s95, s96, s97, s98, s99, s100, s101, s102, s103, s104, s105, s106, s107, s108, s109, s110, s111, s112, s113, s114, s115, s116, s117, s118, s119, s120, s121, s122, s123, s124, s125, s126, s127, s128, s129, s130, s131, s132, s133, s134, s135, s136], defers := [] } W := by
  simp only [regArr, Try.f5, Option.map_some, Option.getD_some, regOf, if_true, if_false, List.append_nil, List.nil_append, List.toList_toArray, Nat.reduceEqDiff, reduceIte]
  refine wp_region_kp [[], [], [0, 1], [], [3], [2, 4], [5], [6], [6], [6], [6], [6, 9, 10], [6, 7, 8, 11], [6], [6], [6, 13, 14], [6, 15], [6, 16], [6, 12, 17], [6, 18], [19]] (fun u => Kp W u)
    [fun (y : Value) (u : World) => y = (.int .i64 (pa : Int) : Value),
     fun (y : Value) (u : World) => y = (.int .i64 (n : Int) : Value),
     fun (y : Value) (u : World) => y = (.int .i64 (m : Int) : Value),
     fun (y : Value) (u : World) => y = (.string S : Value),
     fun (y : Value) (u : World) => y = (.int .i64 (S.size : Int) : Value),
     fun (y : Value) (u : World) => y = (.bool true : Value),
     fun (y : Value) (u : World) => y = (.bool true : Value),
     fun (y : Value) (u : World) => y = (.string S : Value),
     fun (y : Value) (u : World) => y = (.int .i64 (pa : Int) : Value),
     fun (y : Value) (u : World) => y = (.int .i64 (pa : Int) : Value),
     fun (y : Value) (u : World) => y = (.int .i64 (n : Int) : Value),
     fun (y : Value) (u : World) => y = (.int .i64 (m : Int) : Value),
     fun (y : Value) (u : World) => y = (.string x0 : Value),
     fun (y : Value) (u : World) => y = (.slice (some ⟨b, off, none⟩) nl cl : Value),
     fun (y : Value) (u : World) => y = (.int .i64 (k : Int) : Value),
     fun (y : Value) (u : World) => y = (.pointer (some ⟨b, off + k * 4, none⟩) : Value),
     fun (y : Value) (u : World) => y = (.pointer (some ⟨b, off + k * 4 + 1, none⟩) : Value),
     fun (y : Value) (u : World) => y = (.string s : Value),
     fun (y : Value) (u : World) => y = (.bool false : Value),
     fun (y : Value) (u : World) => y = (.bool false : Value),
     fun (y : Value) (u : World) => y = (.bool false : Value)]
    (by kernel_rfl) (by kernel_rfl) (by kernel_rfl) (by kernel_rfl) ((Kp.refl _).drew) (fun _ _ hk h => h.trans hk) ⟨fun _ _ _ _ h => h, fun _ _ _ _ h => h, fun _ _ _ _ h => h, fun _ _ _ _ h => h, fun _ _ _ _ h => h, fun _ _ _ _ h => h, fun _ _ _ _ h => h, fun _ _ _ _ h => h, fun _ _ _ _ h => h, fun _ _ _ _ h => h, fun _ _ _ _ h => h, fun _ _ _ _ h => h, fun _ _ _ _ h => h, fun _ _ _ _ h => h, fun _ _ _ _ h => h, fun _ _ _ _ h => h, fun _ _ _ _ h => h, fun _ _ _ _ h => h, fun _ _ _ _ h => h, fun _ _ _ _ h => h, fun _ _ _ _ h => h, trivial⟩ ⟨?sd0, ?sd1, ?sd2, ?sd3, ?sd4, ?sd5, ?sd6, ?sd7, ?sd8, ?sd9, ?sd10, ?sd11, ?sd12, ?sd13, ?sd14, ?sd15, ?sd16, ?sd17, ?sd18, ?sd19, ?sd20, trivial⟩ ?hEd
  case sd0 =>
    refine OpStepK.by_ ?_
    intro a x u ht hs hg hd K hK
    clear hd
    refine OpGoal.live (wanted_free (by kernel_rfl)) ?_
    have e7 : a.eval (Operand.tmp 7) = (.int .i64 (pa : Int) : Value) := (ht 7).trans (by kernel_rfl)
    clear ht hs
    refine BigFrame.wp_move _ rfl ?_
    exact hK.out _ _ (Kp.refl _) e7
  case sd1 =>
    refine OpStepK.by_ ?_
    intro a x u ht hs hg hd K hK
    clear hd
    refine OpGoal.live (wanted_free (by kernel_rfl)) ?_
    have e9 : a.eval (Operand.tmp 9) = (.int .i64 (n : Int) : Value) := (ht 9).trans (by kernel_rfl)
    clear ht hs
    refine BigFrame.wp_move _ rfl ?_
    exact hK.out _ _ (Kp.refl _) e9
  case sd2 =>
    refine OpStepK.by_ ?_
    intro a x u ht hs hg hd K hK
    have d0 : (x 0) = .int .i64 (pa : Int) := And.left hd
    have d1 : (x 1) = .int .i64 (n : Int) := And.left (And.right hd)
    clear hd
    refine OpGoal.live (wanted_free (by kernel_rfl)) ?_
    have e85 : a.tmps[85]? = some (.int .i64 (pa : Int) : Value) := (hs 85).trans (Eq.trans (b := some (x 0)) (by kernel_rfl) (by rw [d0]))
    have e86 : a.tmps[86]? = some (.int .i64 (n : Int) : Value) := (hs 86).trans (Eq.trans (b := some (x 1)) (by kernel_rfl) (by rw [d1]))
    clear d0 d1
    clear ht hs
    go_simp
    exact hK.out _ _ (Kp.refl _) rfl
  case sd3 =>
    refine OpStepK.by_ ?_
    intro a x u ht hs hg hd K hK
    clear hd
    refine OpGoal.live (wanted_free (by kernel_rfl)) ?_
    have e0 : a.eval (Operand.tmp 0) = (.string S : Value) := (ht 0).trans (by kernel_rfl)
    clear ht hs
    refine BigFrame.wp_move _ rfl ?_
    exact hK.out _ _ (Kp.refl _) e0
  case sd4 =>
    refine OpStepK.by_ ?_
    intro a x u ht hs hg hd K hK
    have d3 : (x 3) = .string S := And.left hd
    clear hd
    refine OpGoal.live (wanted_free (by kernel_rfl)) ?_
    have e88 : a.tmps[88]? = some (.string S : Value) := (hs 88).trans (Eq.trans (b := some (x 3)) (by kernel_rfl) (by rw [d3]))
    clear d3
    clear ht hs
    go_simp
    exact hK.out _ _ (Kp.refl _) rfl
  case sd5 =>
    refine OpStepK.by_ ?_
    intro a x u ht hs hg hd K hK
    have d2 : (x 2) = .int .i64 (m : Int) := And.left hd
    have d4 : (x 4) = .int .i64 (S.size : Int) := And.left (And.right hd)
    clear hd
    refine OpGoal.live (wanted_free (by kernel_rfl)) ?_
    have e87 : a.tmps[87]? = some (.int .i64 (m : Int) : Value) := (hs 87).trans (Eq.trans (b := some (x 2)) (by kernel_rfl) (by rw [d2]))
    have e89 : a.tmps[89]? = some (.int .i64 (S.size : Int) : Value) := (hs 89).trans (Eq.trans (b := some (x 4)) (by kernel_rfl) (by rw [d4]))
    clear d2 d4
    clear ht hs
    go_simp
    exact hK.out _ _ (Kp.refl _) rfl
  case sd6 =>
    refine OpStepK.by_ ?_
    intro a x u ht hs hg hd K hK
    have d5 : (x 5) = .bool true := And.left hd
    clear hd
    refine OpGoal.live (wanted_free (by kernel_rfl)) ?_
    have e90 : a.eval (Operand.tmp 90) = (.bool true : Value) := (ht 90).trans (Eq.trans (b := x 5) (by kernel_rfl) d5)
    clear d5
    clear ht hs
    refine BigFrame.wp_move _ rfl ?_
    exact hK.out _ _ (Kp.refl _) e90
  case sd7 =>
    refine OpStepK.by_ ?_
    intro a x u ht hs hg hd K hK
    have d6 : (x 6) = .bool true := And.left hd
    clear hd
    refine OpGoal.live (wanted_yes (j := 6) (d := 91) (by kernel_rfl) (by kernel_rfl) ((hs 91).trans (Eq.trans (b := some (x 6)) (by kernel_rfl) (by rw [d6])))) ?_
    have e0 : a.eval (Operand.tmp 0) = (.string S : Value) := (ht 0).trans (by kernel_rfl)
    clear d6
    clear ht hs
    refine BigFrame.wp_move _ rfl ?_
    exact hK.out _ _ (Kp.refl _) e0
  case sd8 =>
    refine OpStepK.by_ ?_
    intro a x u ht hs hg hd K hK
    have d6 : (x 6) = .bool true := And.left hd
    clear hd
    refine OpGoal.live (wanted_yes (j := 6) (d := 91) (by kernel_rfl) (by kernel_rfl) ((hs 91).trans (Eq.trans (b := some (x 6)) (by kernel_rfl) (by rw [d6])))) ?_
    have e7 : a.eval (Operand.tmp 7) = (.int .i64 (pa : Int) : Value) := (ht 7).trans (by kernel_rfl)
    clear d6
    clear ht hs
    refine BigFrame.wp_move _ rfl ?_
    exact hK.out _ _ (Kp.refl _) e7
  case sd9 =>
    refine OpStepK.by_ ?_
    intro a x u ht hs hg hd K hK
    have d6 : (x 6) = .bool true := And.left hd
    clear hd
    refine OpGoal.live (wanted_yes (j := 6) (d := 91) (by kernel_rfl) (by kernel_rfl) ((hs 91).trans (Eq.trans (b := some (x 6)) (by kernel_rfl) (by rw [d6])))) ?_
    have e7 : a.eval (Operand.tmp 7) = (.int .i64 (pa : Int) : Value) := (ht 7).trans (by kernel_rfl)
    clear d6
    clear ht hs
    refine BigFrame.wp_move _ rfl ?_
    exact hK.out _ _ (Kp.refl _) e7
  case sd10 =>
    refine OpStepK.by_ ?_
    intro a x u ht hs hg hd K hK
    have d6 : (x 6) = .bool true := And.left hd
    clear hd
    refine OpGoal.live (wanted_yes (j := 6) (d := 91) (by kernel_rfl) (by kernel_rfl) ((hs 91).trans (Eq.trans (b := some (x 6)) (by kernel_rfl) (by rw [d6])))) ?_
    have e9 : a.eval (Operand.tmp 9) = (.int .i64 (n : Int) : Value) := (ht 9).trans (by kernel_rfl)
    clear d6
    clear ht hs
    refine BigFrame.wp_move _ rfl ?_
    exact hK.out _ _ (Kp.refl _) e9
  case sd11 =>
    refine OpStepK.by_ ?_
    intro a x u ht hs hg hd K hK
    have d6 : (x 6) = .bool true := And.left hd
    have d9 : (x 9) = .int .i64 (pa : Int) := And.left (And.right hd)
    have d10 : (x 10) = .int .i64 (n : Int) := And.left (And.right (And.right hd))
    clear hd
    refine OpGoal.live (wanted_yes (j := 6) (d := 91) (by kernel_rfl) (by kernel_rfl) ((hs 91).trans (Eq.trans (b := some (x 6)) (by kernel_rfl) (by rw [d6])))) ?_
    have e94 : a.tmps[94]? = some (.int .i64 (pa : Int) : Value) := (hs 94).trans (Eq.trans (b := some (x 9)) (by kernel_rfl) (by rw [d9]))
    have e95 : a.tmps[95]? = some (.int .i64 (n : Int) : Value) := (hs 95).trans (Eq.trans (b := some (x 10)) (by kernel_rfl) (by rw [d10]))
    clear d6 d9 d10
    clear ht hs
    go_simp
    exact hK.out _ _ (Kp.refl _) rfl
  case sd12 =>
    refine OpStepK.by_ ?_
    intro a x u ht hs hg hd K hK
    have d6 : (x 6) = .bool true := And.left hd
    have d7 : (x 7) = .string S := And.left (And.right hd)
    have d8 : (x 8) = .int .i64 (pa : Int) := And.left (And.right (And.right hd))
    have d11 : (x 11) = .int .i64 (m : Int) := And.left (And.right (And.right (And.right hd)))
    clear hd
    refine OpGoal.live (wanted_yes (j := 6) (d := 91) (by kernel_rfl) (by kernel_rfl) ((hs 91).trans (Eq.trans (b := some (x 6)) (by kernel_rfl) (by rw [d6])))) ?_
    have e92 : a.tmps[92]? = some (.string S : Value) := (hs 92).trans (Eq.trans (b := some (x 7)) (by kernel_rfl) (by rw [d7]))
    have e93 : a.tmps[93]? = some (.int .i64 (pa : Int) : Value) := (hs 93).trans (Eq.trans (b := some (x 8)) (by kernel_rfl) (by rw [d8]))
    have e96 : a.tmps[96]? = some (.int .i64 (m : Int) : Value) := (hs 96).trans (Eq.trans (b := some (x 11)) (by kernel_rfl) (by rw [d11]))
    clear d6 d7 d8 d11
    clear ht hs
    go_simp
    exact hK.out _ _ (Kp.refl _) rfl
  case sd13 =>
    refine OpStepK.by_ ?_
    intro a x u ht hs hg hd K hK
    have d6 : (x 6) = .bool true := And.left hd
    clear hd
    refine OpGoal.live (wanted_yes (j := 6) (d := 91) (by kernel_rfl) (by kernel_rfl) ((hs 91).trans (Eq.trans (b := some (x 6)) (by kernel_rfl) (by rw [d6])))) ?_
    have e3 : a.eval (Operand.tmp 3) = (.slice (some ⟨b, off, none⟩) nl cl : Value) := (ht 3).trans (by kernel_rfl)
    clear d6
    clear ht hs
    refine BigFrame.wp_move _ rfl ?_
    exact hK.out _ _ (Kp.refl _) e3
  case sd14 =>
    refine OpStepK.by_ ?_
    intro a x u ht hs hg hd K hK
    have d6 : (x 6) = .bool true := And.left hd
    clear hd
    refine OpGoal.live (wanted_yes (j := 6) (d := 91) (by kernel_rfl) (by kernel_rfl) ((hs 91).trans (Eq.trans (b := some (x 6)) (by kernel_rfl) (by rw [d6])))) ?_
    have e8 : a.eval (Operand.tmp 8) = (.int .i64 (k : Int) : Value) := (ht 8).trans (by kernel_rfl)
    clear d6
    clear ht hs
    refine BigFrame.wp_move _ rfl ?_
    exact hK.out _ _ (Kp.refl _) e8
  case sd15 =>
    refine OpStepK.by_ ?_
    intro a x u ht hs hg hd K hK
    have d6 : (x 6) = .bool true := And.left hd
    have d13 : (x 13) = .slice (some ⟨b, off, none⟩) nl cl := And.left (And.right hd)
    have d14 : (x 14) = .int .i64 (k : Int) := And.left (And.right (And.right hd))
    clear hd
    refine OpGoal.live (wanted_yes (j := 6) (d := 91) (by kernel_rfl) (by kernel_rfl) ((hs 91).trans (Eq.trans (b := some (x 6)) (by kernel_rfl) (by rw [d6])))) ?_
    have e98 : a.tmps[98]? = some (.slice (some ⟨b, off, none⟩) nl cl : Value) := (hs 98).trans (Eq.trans (b := some (x 13)) (by kernel_rfl) (by rw [d13]))
    have e99 : a.tmps[99]? = some (.int .i64 (k : Int) : Value) := (hs 99).trans (Eq.trans (b := some (x 14)) (by kernel_rfl) (by rw [d14]))
    clear d6 d13 d14
    clear ht hs
    go_simp
    exact hK.out _ _ (Kp.refl _) rfl
  case sd16 =>
    refine OpStepK.by_ ?_
    intro a x u ht hs hg hd K hK
    have d6 : (x 6) = .bool true := And.left hd
    have d15 : (x 15) = .pointer (some ⟨b, off + k * 4, none⟩) := And.left (And.right hd)
    clear hd
    refine OpGoal.live (wanted_yes (j := 6) (d := 91) (by kernel_rfl) (by kernel_rfl) ((hs 91).trans (Eq.trans (b := some (x 6)) (by kernel_rfl) (by rw [d6])))) ?_
    have e100 : a.tmps[100]? = some (.pointer (some ⟨b, off + k * 4, none⟩) : Value) := (hs 100).trans (Eq.trans (b := some (x 15)) (by kernel_rfl) (by rw [d15]))
    clear d6 d15
    clear ht hs
    go_simp
    exact hK.out _ _ (Kp.refl _) rfl
  case sd17 =>
    refine OpStepK.by_ ?_
    intro a x u ht hs hg hd K hK
    have d6 : (x 6) = .bool true := And.left hd
    have d16 : (x 16) = .pointer (some ⟨b, off + k * 4 + 1, none⟩) := And.left (And.right hd)
    clear hd
    refine OpGoal.live (wanted_yes (j := 6) (d := 91) (by kernel_rfl) (by kernel_rfl) ((hs 91).trans (Eq.trans (b := some (x 6)) (by kernel_rfl) (by rw [d6])))) ?_
    have e101 : a.tmps[101]? = some (.pointer (some ⟨b, off + k * 4 + 1, none⟩) : Value) := (hs 101).trans (Eq.trans (b := some (x 16)) (by kernel_rfl) (by rw [d16]))
    clear d6 d16
    clear ht hs
    have q0 := cell_kp hg hb T1
    go_simp
    exact hK.out _ _ (Kp.refl _) rfl
  case sd18 =>
    refine OpStepK.by_ ?_
    intro a x u ht hs hg hd K hK
    have d6 : (x 6) = .bool true := And.left hd
    have d12 : (x 12) = .string x0 := And.left (And.right hd)
    have d17 : (x 17) = .string s := And.left (And.right (And.right hd))
    clear hd
    refine OpGoal.live (wanted_yes (j := 6) (d := 91) (by kernel_rfl) (by kernel_rfl) ((hs 91).trans (Eq.trans (b := some (x 6)) (by kernel_rfl) (by rw [d6])))) ?_
    have e97 : a.tmps[97]? = some (.string x0 : Value) := (hs 97).trans (Eq.trans (b := some (x 12)) (by kernel_rfl) (by rw [d12]))
    have e102 : a.tmps[102]? = some (.string s : Value) := (hs 102).trans (Eq.trans (b := some (x 17)) (by kernel_rfl) (by rw [d17]))
    clear d6 d12 d17
    clear ht hs
    go_simp
    exact hK.out _ _ (Kp.refl _) rfl
  case sd19 =>
    refine OpStepK.by_ ?_
    intro a x u ht hs hg hd K hK
    have d6 : (x 6) = .bool true := And.left hd
    have d18 : (x 18) = .bool false := And.left (And.right hd)
    clear hd
    refine OpGoal.live (wanted_free (by kernel_rfl)) ?_
    have e91 : a.tmps[91]? = some (.bool true : Value) := (hs 91).trans (Eq.trans (b := some (x 6)) (by kernel_rfl) (by rw [d6]))
    have e103 : a.tmps[103]? = some (.bool false : Value) := (hs 103).trans (Eq.trans (b := some (x 18)) (by kernel_rfl) (by rw [d18]))
    clear d6 d18
    clear ht hs
    go_simp
    exact hK.out _ _ (Kp.refl _) rfl
  case sd20 =>
    refine OpStepK.by_ ?_
    intro a x u ht hs hg hd K hK
    have d19 : (x 19) = .bool false := And.left hd
    clear hd
    refine OpGoal.live (wanted_free (by kernel_rfl)) ?_
    have e104 : a.eval (Operand.tmp 104) = (.bool false : Value) := (ht 104).trans (Eq.trans (b := x 19) (by kernel_rfl) d19)
    clear d19
    clear ht hs
    refine BigFrame.wp_assign _ rfl ?_
    exact hK.out _ _ (Kp.refl _) e104
  intro x u hg he
  have d0 : (x 0) = .int .i64 (pa : Int) := And.left he
  have d1 : (x 1) = .int .i64 (n : Int) := And.left (And.right he)
  have d2 : (x 2) = .int .i64 (m : Int) := And.left (And.right (And.right he))
  have d3 : (x 3) = .string S := And.left (And.right (And.right (And.right he)))
  have d4 : (x 4) = .int .i64 (S.size : Int) := And.left (And.right (And.right (And.right (And.right he))))
  have d5 : (x 5) = .bool true := And.left (And.right (And.right (And.right (And.right (And.right he)))))
  have d6 : (x 6) = .bool true := And.left (And.right (And.right (And.right (And.right (And.right (And.right he))))))
  have d7 : (x 7) = .string S := And.left (And.right (And.right (And.right (And.right (And.right (And.right (And.right he)))))))
  have d8 : (x 8) = .int .i64 (pa : Int) := And.left (And.right (And.right (And.right (And.right (And.right (And.right (And.right (And.right he))))))))
  have d9 : (x 9) = .int .i64 (pa : Int) := And.left (And.right (And.right (And.right (And.right (And.right (And.right (And.right (And.right (And.right he)))))))))
  have d10 : (x 10) = .int .i64 (n : Int) := And.left (And.right (And.right (And.right (And.right (And.right (And.right (And.right (And.right (And.right (And.right he))))))))))
  have d11 : (x 11) = .int .i64 (m : Int) := And.left (And.right (And.right (And.right (And.right (And.right (And.right (And.right (And.right (And.right (And.right (And.right he)))))))))))
  have d12 : (x 12) = .string x0 := And.left (And.right (And.right (And.right (And.right (And.right (And.right (And.right (And.right (And.right (And.right (And.right (And.right he))))))))))))
  have d13 : (x 13) = .slice (some ⟨b, off, none⟩) nl cl := And.left (And.right (And.right (And.right (And.right (And.right (And.right (And.right (And.right (And.right (And.right (And.right (And.right (And.right he)))))))))))))
  have d14 : (x 14) = .int .i64 (k : Int) := And.left (And.right (And.right (And.right (And.right (And.right (And.right (And.right (And.right (And.right (And.right (And.right (And.right (And.right (And.right he))))))))))))))
  have d15 : (x 15) = .pointer (some ⟨b, off + k * 4, none⟩) := And.left (And.right (And.right (And.right (And.right (And.right (And.right (And.right (And.right (And.right (And.right (And.right (And.right (And.right (And.right (And.right he)))))))))))))))
  have d16 : (x 16) = .pointer (some ⟨b, off + k * 4 + 1, none⟩) := And.left (And.right (And.right (And.right (And.right (And.right (And.right (And.right (And.right (And.right (And.right (And.right (And.right (And.right (And.right (And.right (And.right he))))))))))))))))
  have d17 : (x 17) = .string s := And.left (And.right (And.right (And.right (And.right (And.right (And.right (And.right (And.right (And.right (And.right (And.right (And.right (And.right (And.right (And.right (And.right (And.right he)))))))))))))))))
  have d18 : (x 18) = .bool false := And.left (And.right (And.right (And.right (And.right (And.right (And.right (And.right (And.right (And.right (And.right (And.right (And.right (And.right (And.right (And.right (And.right (And.right (And.right he))))))))))))))))))
  have d19 : (x 19) = .bool false := And.left (And.right (And.right (And.right (And.right (And.right (And.right (And.right (And.right (And.right (And.right (And.right (And.right (And.right (And.right (And.right (And.right (And.right (And.right (And.right he)))))))))))))))))))
  have d20 : (x 20) = .bool false := And.left (And.right (And.right (And.right (And.right (And.right (And.right (And.right (And.right (And.right (And.right (And.right (And.right (And.right (And.right (And.right (And.right (And.right (And.right (And.right (And.right he))))))))))))))))))))
  clear he
  refine ⟨?_⟩
  simp only [putsFrom, Act.put, List.setIfInBounds_toArray, List.set_cons_zero, List.set_cons_succ, Nat.reduceAdd, d0, d1, d2, d3, d4, d5, d6, d7, d8, d9, d10, d11, d12, d13, d14, d15, d16, d17, d18, d19, d20]
  clear d0 d1 d2 d3 d4 d5 d6 d7 d8 d9 d10 d11 d12 d13 d14 d15 d16 d17 d18 d19 d20
  exact hE _ hg
theorem posL_bd (S : ByteArray) : ∀ a : Nat, 1 ≤ (posL S a).1 ∧ (posL S a).1 ≤ a + 1 ∧ 1 ≤ (posL S a).2 ∧ (posL S a).2 ≤ a + 1
  | 0 => ⟨by show (1 : Int) ≤ 1; omega, by show (1 : Int) ≤ ((0 : Nat) : Int) + 1; omega, by show (1 : Int) ≤ 1; omega, by show (1 : Int) ≤ ((0 : Nat) : Int) + 1; omega⟩
  | a + 1 => by
    obtain ⟨h1, h2, h3, h4⟩ := posL_bd S a
    rw [posL]
    split
    · exact ⟨by show 1 ≤ (posL S a).1 + 1; omega, by show (posL S a).1 + 1 ≤ ((a + 1 : Nat) : Int) + 1; omega, by show (1 : Int) ≤ 1; omega, by show (1 : Int) ≤ ((a + 1 : Nat) : Int) + 1; omega⟩
    · exact ⟨by show 1 ≤ (posL S a).1; omega, by show (posL S a).1 ≤ ((a + 1 : Nat) : Int) + 1; omega, by show 1 ≤ (posL S a).2 + 1; omega, by show (posL S a).2 + 1 ≤ ((a + 1 : Nat) : Int) + 1; omega⟩
theorem in_round {S : ByteArray} {a a1 F : Nat} {x y : Int} (ha : a + 1 = a1) (h1 : posL S a1 = (x, y)) (h2 : a < F) (hs : F ≤ S.size) : (∃ a' : Nat, Value.int .i64 x = .int .i64 (posL S a').1 ∧ Value.int .i64 y = .int .i64 (posL S a').2 ∧ Value.int .i64 (a1 : Int) = .int .i64 (a' : Int) ∧ a' ≤ F) ∧ S.size - (intOf (.int .i64 (a1 : Int))).toNat < S.size - (intOf (.int .i64 (a : Int))).toNat := by
  subst ha
  exact ⟨⟨a + 1, by rw [h1], by rw [h1], rfl, h2⟩, by simp only [intOf, Int.toNat_natCast]; omega⟩
theorem out_round {S : ByteArray} {W u : World} {k k1 n a : Nat} {x y : Int} {f : Nat → Nat} (hk : k + 1 = k1) (h1 : posL S a = (x, y)) (hl : k < n) (h2 : a ≤ f (k + 1)) (hs : a ≤ S.size) (hw : Kp W u) : (∃ k' a' : Nat, k' ≤ n ∧ Value.int .i64 x = .int .i64 (posL S a').1 ∧ Value.int .i64 y = .int .i64 (posL S a').2 ∧ Value.int .i64 (a : Int) = .int .i64 (a' : Int) ∧ Value.int .i64 (k1 : Int) = .int .i64 (k' : Int) ∧ a' ≤ f k' ∧ a' ≤ S.size ∧ Kp W u) ∧ n - (intOf (.int .i64 (k1 : Int))).toNat < n - (intOf (.int .i64 (k : Int))).toNat := by
  subst hk
  exact ⟨⟨k + 1, a, hl, by rw [h1], by rw [h1], rfl, rfl, h2, hs, hw⟩, by simp only [intOf, Int.toNat_natCast]; omega⟩
set_option maxRecDepth 20000 in
set_option maxHeartbeats 8000000 in
theorem walk (a0 : ByteArray) (w : World) (w0 : a0.size ≤ 140737488351232) :
    Calls Try.prog 5 #[.string a0] w fun e w' => e = .returned (.bool true) ∧ Kp w w' := by
  go_enter Try.func5, Try.ntmps5
  go_wp2_with fail
  refine (toks_any _ a0 w0).mono ?_
  rintro e w1 ⟨h1, hk1⟩
  have HK := hid hk1
  rcases h1 with ⟨l, v, hT, rfl, ho⟩ | ⟨er, hT, e1, e2, rfl⟩
  · obtain ⟨⟨f, hf1, hf2, hf3⟩, hl2, hs8⟩ := hT.placed
    have HF1 := hid hf1; have HF2 := hid hf2
    have HL2 := hid hl2; have HS8 := hid hs8
    have HR := hid (OwnL.rd ho)
    obtain ⟨A, cc, rfl, _⟩ := (OwnL.rd ho).form
    clear hT ho hf1 hf2 hf3 hl2 hs8 hk1 w0
    go_wp2_with fail
    have HKW := hid (show Kp w1 (w1.alloc (.cells #[.int .i64 0, .int .i64 0, .int .i64 0] 36)) from (Kp.refl _).alloc _)
    generalize (w1.alloc (.cells #[.int .i64 0, .int .i64 0, .int .i64 0] 36)) = W at HKW ⊢
    go_loopw [5, 6, 7, 8] (fun ln cl at_ i wr => ∃ k a : Nat, k ≤ l.length ∧ ln = .int .i64 (posL a0 a).1 ∧ cl = .int .i64 (posL a0 a).2 ∧ at_ = .int .i64 (a : Int) ∧ i = .int .i64 (k : Int) ∧ a ≤ f k ∧ a ≤ a0.size ∧ Kp W wr) (fun _ _ _ i _ => l.length - (intOf i).toNat)
    case atStart => exact ⟨0, 0, Nat.zero_le _, rfl, rfl, rfl, rfl, Nat.zero_le _, Nat.zero_le _, Kp.refl _⟩
    case round =>
      obtain ⟨k, a, hk, rfl, rfl, rfl, rfl, haf, has, hkp⟩ := hrel
      have HKR := hid hkp
      by_cases hlt : k < l.length
      · have i1 : (k : Int) < (l.length : Int) := by omega
        obtain ⟨t, ht⟩ : ∃ t, l[k]? = some t := ⟨_, List.getElem?_eq_getElem hlt⟩
        obtain ⟨b, off, rfl, hb, g0, g1, g2, g3, _⟩ := at_token (HR.out.kp CeToken.kp (HKW.out.trans hkp)) ht
        have HTA := hid (HF1.out k t ht)
        obtain ⟨F, hF⟩ : ∃ F, f k = F := ⟨_, rfl⟩
        rw [hF] at HTA haf
        have HFF := hid hF
        have HFS := hid HTA.out.1
        have HFP := hid HTA.out.2.1
        have HA := hid haf
        have HB := hid hb; have G1 := hid g1
        clear hkp ht hF haf has hk
        go_wp2_with fail
        go_loop [5, 6, 7] (fun ln cl at_ => ∃ a : Nat, ln = .int .i64 (posL a0 a).1 ∧ cl = .int .i64 (posL a0 a).2 ∧ at_ = .int .i64 (a : Int) ∧ a ≤ F) (fun _ _ at_ => a0.size - (intOf at_).toNat)
        case atStart => exact ⟨a, rfl, rfl, rfl, HA.out⟩
        case round =>
          obtain ⟨a, rfl, rfl, rfl, haf⟩ := hrel
          by_cases hlf : a < F
          · have hsz : a < a0.size := by have := HFS.out; omega
            have i2 : (a : Int) < (a0.size : Int) := by omega
            obtain ⟨d, hd⟩ : ∃ d, F = a + d + 1 := ⟨F - a - 1, by omega⟩
            have hpl := posL_lt (S := a0) (a := a) d
            rw [← hd, HFP.out] at hpl
            have hbd := posL_bd a0 a
            obtain ⟨x, hx⟩ : ∃ x, (posL a0 a).1 = x := ⟨_, rfl⟩
            obtain ⟨y, hy⟩ : ∃ y, (posL a0 a).2 = y := ⟨_, rfl⟩
            have HP := hid (show posL a0 a = (x, y) by rw [← hx, ← hy])
            rw [hx, hy] at hpl hbd ⊢
            obtain ⟨a1, ha1⟩ : ∃ a1, a + 1 = a1 := ⟨_, rfl⟩
            obtain ⟨x1, hx1⟩ : ∃ x1, x + 1 = x1 := ⟨_, rfl⟩
            obtain ⟨y1, hy1⟩ : ∃ y1, y + 1 = y1 := ⟨_, rfl⟩
            have HA1 := hid ha1
            have k0 : IntKind.i64.wrap ((a : Int) + 1) = (a1 : Int) := by rw [IntKind.wrap_i64]; have := HS8.out; omega
            have k1 : IntKind.i64.wrap (x + 1) = x1 := by rw [IntKind.wrap_i64]; have := HS8.out; omega
            have k2 : IntKind.i64.wrap (y + 1) = y1 := by rw [IntKind.wrap_i64]; have := HS8.out; omega
            obtain ⟨bb, hbb⟩ : ∃ bb, a0[a] = bb := ⟨_, rfl⟩
            have hat : a0.data.toList[a]? = some bb := by rw [← hbb]; exact rest_at a0 a hsz
            have HLF := hid hlf
            by_cases h10 : bb = 10
            · have t10 : ((bb.toNat : Int) == 10) = true := (byte_beq bb 10 (by decide)).trans (by rw [h10]; rfl)
              have HN := hid (show posL a0 a1 = (x1, 1) by rw [← ha1, posL_nl (by rw [hat, h10]), HP.out, ← hx1])
              clear hbd hd hx hy ha1 hx1 hy1 hat h10 hlf haf
              rcases hpl with hpl | ⟨hp1, hpl⟩
              · have q1 : x < t.line := hpl
                clear hpl
                go_wp2
                exact in_round HA1.out HN.out HLF.out HFS.out
              · have q1 : ¬ x < t.line := by have : x = t.line := hp1; omega
                have q2 : y < t.col := hpl
                clear hpl hp1
                go_wp2
                exact in_round HA1.out HN.out HLF.out HFS.out
            · have t10 : ((bb.toNat : Int) == 10) = false := (byte_beq bb 10 (by decide)).trans (beq_eq_false_iff_ne.2 h10)
              have HN := hid (show posL a0 a1 = (x, y1) by rw [← ha1, posL_up (by rw [hat]; intro e; injection e with e; exact h10 e), HP.out, ← hy1])
              clear hbd hd hx hy ha1 hx1 hy1 hat h10 hlf haf
              rcases hpl with hpl | ⟨hp1, hpl⟩
              · have q1 : x < t.line := hpl
                clear hpl
                go_wp2
                exact in_round HA1.out HN.out HLF.out HFS.out
              · have q1 : ¬ x < t.line := by have : x = t.line := hp1; omega
                have q2 : y < t.col := hpl
                clear hpl hp1
                go_wp2
                exact in_round HA1.out HN.out HLF.out HFS.out
          · obtain rfl : a = F := by omega
            rw [HFP.out]
            dsimp only
            have q1 : ¬ t.line < t.line := by omega
            have q2 : ¬ t.col < t.col := by omega
            obtain ⟨k1, hk1⟩ : ∃ k1, k + 1 = k1 := ⟨_, rfl⟩
            have HK1 := hid hk1
            have k0 : IntKind.i64.wrap ((k : Int) + 1) = (k1 : Int) := by rw [IntKind.wrap_i64]; have := HL2.out; omega
            have HUP := hid (show a ≤ f (k + 1) by rw [← HFF.out]; exact HF2.out k)
            obtain ⟨n, hn⟩ : ∃ n, t.text.size = n := ⟨_, rfl⟩
            obtain ⟨m, hm⟩ : ∃ m, a + n = m := ⟨_, rfl⟩
            have HFS2 := HFS.out
            clear hlf haf hk1
            rcases HTA.out.2.2 with ⟨hz, hx⟩ | ⟨h6, hse, hz⟩
            · rw [hn, hm] at hz hx
              have j1 : IntKind.i64.wrap ((a : Int) + (n : Int)) = (m : Int) := by rw [IntKind.wrap_i64]; have := HS8.out; omega
              have j2 : (m : Int) ≤ (a0.size : Int) := by omega
              have j3 : (0 : Int) ≤ (a : Int) := by omega
              have j4 : (a : Int) ≤ (m : Int) := by omega
              clear hz
              by_cases hsz : a < a0.size
              · have i2 : (a : Int) < (a0.size : Int) := by omega
                clear hm HFS2
                go_upto_region 17 with fail
                refine pl17a a0 t.text b off l.length cc k a n m HB.out G1.out i1 j1 j2 j3 j4 hx (fun u hg => ?_)
                have HG := hid hg
                clear hg hx g1
                go_wp2
                exact out_round HK1.out HFP.out hlt HUP.out HFS.out (HKR.out.trans HG.out)
              · have i2 : ¬ (a : Int) < (a0.size : Int) := by omega
                clear hm HFS2
                go_upto_region 17 with fail
                refine pl17a a0 t.text b off l.length cc k a n m HB.out G1.out i1 j1 j2 j3 j4 hx (fun u hg => ?_)
                have HG := hid hg
                clear hg hx g1
                go_wp2
                exact out_round HK1.out HFP.out hlt HUP.out HFS.out (HKR.out.trans HG.out)
            · rw [h6] at g0
              rw [hse] at g1 hn
              have G0 := hid g0
              have G1 := hid g1
              have hn1 : n = 1 := hn.symm.trans (by rfl)
              subst hn1
              have tl : (semiB.toList == [59]) = true := by rw [ByteArray.toList_eq]; rfl
              have tk : ((6 : Int) == 6) = true := rfl
              by_cases hsz : a < a0.size
              · have i2 : (a : Int) < (a0.size : Int) := by omega
                have h10 : a0.data.toList[a]? = some 10 := by
                  rcases hz with hz | hz
                  · omega
                  · exact hz
                have h10' : a0[a] = 10 := by
                  have := rest_at a0 a hsz
                  rw [h10] at this
                  exact (Option.some.inj this).symm
                have j1 : IntKind.i64.wrap ((a : Int) + ((1 : Nat) : Int)) = (m : Int) := by rw [IntKind.wrap_i64]; have := HS8.out; omega
                have j2 : (m : Int) ≤ (a0.size : Int) := by omega
                have j3 : (0 : Int) ≤ (a : Int) := by omega
                have j4 : (a : Int) ≤ (m : Int) := by omega
                have hq : ((a0.extract a m).toList == semiB.toList) = false := by
                  have e9 : semiB.toList = [59] := by rw [ByteArray.toList_eq]; rfl
                  rw [← hm, ByteArray.toList_eq, ext_rest, rest_cons hsz, h10', e9]
                  rfl
                have n0 : ((a : Int) == (a0.size : Int)) = false := by rw [beq_eq_false_iff_ne]; omega
                clear hm hse hz h6 hn
                go_upto_region 17 with fail
                refine pl17c a0 semiB _ b off l.length cc k a 1 m HB.out G1.out i1 j1 j2 j3 j4 rfl hq (fun u hg => ?_)
                have HG := hid hg
                have y0 := cell_kp hg HB.out G0.out
                have y1 := cell_kp hg HB.out G1.out
                clear hg g1 g0 hq
                go_wp2
                exact out_round HK1.out HFP.out hlt HUP.out HFS.out (HKR.out.trans HG.out)
              · have i2 : ¬ (a : Int) < (a0.size : Int) := by omega
                have j1 : IntKind.i64.wrap ((a : Int) + ((1 : Nat) : Int)) = (m : Int) := by rw [IntKind.wrap_i64]; have := HS8.out; omega
                have j2 : ¬ (m : Int) ≤ (a0.size : Int) := by omega
                have n0 : ((a : Int) == (a0.size : Int)) = true := by rw [beq_iff_eq]; omega
                clear hm hse hz h6 hn
                go_upto_region 17 with fail
                refine pl17b a0 b off l.length cc k a 1 m j1 j2 (fun u hg => ?_)
                have HG := hid hg
                have y0 := cell_kp hg HB.out G0.out
                have y1 := cell_kp hg HB.out G1.out
                clear hg g1 g0
                go_wp2
                exact out_round HK1.out HFP.out hlt HUP.out HFS.out (HKR.out.trans HG.out)
      · have i1 : ¬ (k : Int) < (l.length : Int) := by omega
        clear hk hkp haf has
        go_wp2_with (go_at_call 18; go_must (refine (three_any _).mono ?_); rintro e w9 ⟨rfl, hk9⟩)
        go_ret
        exact ⟨rfl, HK.out.trans (HKW.out.trans (HKR.out.trans hk9))⟩
  · have t0 : (er.1 != 0) = true := by rw [bne_iff_ne]; omega
    clear hT e1 e2 hk1 w0
    go_wp2_with (go_at_call 18; go_must (refine (three_any _).mono ?_); rintro e w9 ⟨rfl, hk9⟩)
    go_ret
    exact ⟨rfl, HK.out.trans (((Kp.refl _).alloc _).trans hk9)⟩
/-! ### The row's step (the guide's frame, written by program) -/
set_option maxRecDepth 100000 in
theorem lifted (os : Os) (started : os.Started) (H : Type) (enc : TypeId × Value → H) :
    ReturnsInHanded {} Try.checked os 5 .any (Rows.scanPlacesSpec.pre6 enc Try.prog Try.f5 Rows.scanPlacesRow.domain false) (Rows.scanPlacesSpec.post enc Try.prog Try.f5 false true false false) := by
  refine returnsInHanded_of_change_sized (C := Try.checked) own started (by kernel_rfl) Try.func5
    (ChangeSpec.witness6 (enc := enc) (C := Try.checked) false ⟨#[], #[.string ⟨#[]⟩], []⟩ 8 (by kernel_rfl) (by kernel_rfl) (by kernel_rfl) (by kernel_rfl)) ?_
  intro W base args ds gs before hval0 hW _ hsz0 _
  have hsz : (DataW.weightsEach Try.prog (Try.f5.params.toList ++ Rows.scanPlacesSpec.plain.varTypes Try.prog) (ds ++ gs)).all (· ≤ reachBytes) = true := hsz0
  clear hsz0
  have hval : ∀ (j : Nat) t v, Try.f5.params[j]? = some t → args[j]? = some v → Value.okWide Try.prog W .any base t v := hval0
  have hW' := hW
  obtain ⟨p, q, hA0, hV, rfl, hfz, hnd⟩ := hW
  have hA : DataW.TrodAll enc Try.prog W 0 (fun _ => true) true Try.f5.params.toList args.toList ds p := hA0
  rw [Try.params5] at hA hval hsz
  obtain ⟨v0, vs0, d0, ds0, p0, q0, hargs, rfl, rfl, h0, r0⟩ := trodAll_cons hA
  obtain ⟨rfl, rfl, rfl⟩ := trodAll_nil r0
  obtain rfl : args = #[v0] := by cases args; simp_all
  obtain ⟨rfl, rfl⟩ := trodVars_none hV
  have k0 := h0
  have lt0 : ∀ x ∈ p0, x.block < W.heap.size := by obtain ⟨m, hm⟩ := k0; exact DataW.trod_lt m _ _ _ hm
  have hz0 : ∀ n ∈ DataW.weights Try.prog 9 d0, n ≤ reachBytes := fun n hn => by
    have := List.all_eq_true.1 hsz _ (DataW.weights_mem_each (j := 0) rfl rfl n hn)
    simpa using this
  obtain ⟨a0, rfl, rfl, rfl, ws0⟩ := open_string Try.underlying9 (hval 0 9 v0 rfl rfl) h0
  have w0 : a0.size ≤ 140737488351232 := by
    have h := hz0 a0.data.toList.length (by simp [DataW.weights])
    rw [Array.length_toList] at h; exact h
  clear hA0 hval0
  simp only [List.append_nil] at hW'
  refine (walk a0 W w0).mono fun e W' ⟨he, bel⟩ => ?_
  subst he
  exact ⟨_, rfl, _, _, _, [], _, [], hW', trodAll_mk1 (shut_bool Try.underlying4 _), (trodAll_cons_mk (Below.trod laidOut (by kernel_rfl) (of_decide_eq_true (by kernel_rfl)) k0 bel lt0) trodAll_mk0), rfl, Below.frame bel _, fun h => by cases h⟩

theorem over : Rows.scanPlacesRow.holds Try.pinned (OpenSpec.ofChange Rows.scanPlacesSpec) :=
  OpenClaim.holds_of_wide 5 Try.f5 rfl rfl rfl rfl rfl rfl rfl ⟨rfl, rfl, rfl, rfl, rfl⟩ rfl rfl rfl rfl rfl (by kernel_rfl) Try.func5 (by kernel_rfl)
    (of_decide_eq_true (by kernel_rfl)) (by unfold Func.isWrapper; rw [if_neg (of_decide_eq_false (by kernel_rfl))]; exact ⟨rfl, rfl⟩)
    (fun os started H enc _ => lifted os started H enc)

/-- THE STATEMENT. -/
theorem proved : Rows.ScanPlacesSaid := over
#print axioms proved

end Go.Proofs.Ytlfgofjmcegeiaa.scanPlaces
