/-
  The law ReportBack answers true for every list of panics of bulk at most 2^20. Condition: the bound of the Upto statement.
-/
import Derived.SizedLaws
import Derived.Deep.CondSized
import Derived.Test.YtiicdknmoakocaaRows
import Derived.Test.YtiicdknmoakocaaRepQ
import Derived.Test.YtiicdknmoakocaaBulkP
import Derived.Test.YtiicdknmoakocaaOwn
import Derived.Test.YtiicdknmoakocaaRegF
import Derived.Deep.DeepCutAuto
namespace Go.Proofs.Ytiicdknmoakocaa.reportBack
open Go.ChangeShapes Go.WideShapes Go.ChangeAt Go.RowKit
open Go.ChangeMaps (open_string shut_string)
set_option linter.unusedVariables false
set_option linter.unusedSimpArgs false

theorem own : ownKnob Try.prog.godebug = none := by kernel_rfl
theorem laidOut : laidOutB Try.prog = true := by kernel_rfl


set_option maxRecDepth 20000 in
set_option maxHeartbeats 4000000 in
theorem rep20 {W : World} {Q : Exit → Act → World → Prop} {s0 s1 s2 s4 s5 s6 s8 s9 s11 s12 s13 s14 s15 s16 s17 s18 s19 s20 s21 s22 s23 s24 s25 s26 s27 s28 s29 s30 s31 s32 s33 s34 s35 s36 s37 s38 s39 s40 s41 s42 s43 s44 s45 s46 s47 s48 s49 s50 s51 s52 s53 s54 s55 s56 s57 s58 s59 s60 s61 s62 s63 s64 s65 s66 s67 s68 s69 s70 s71 s72 s73 s74 s75 s76 s77 s78 s79 s80 s81 s82 s83 s84 s85 s86 s87 s88 s89 s90 s91 s92 s93 s94 s95 s96 s97 s98 s99 s100 s101 s102 s103 s104 s105 s106 s107 s108 s109 s110 s111 s112 s113 : Value} (pb po qb qo n c9 c8 k : Nat) (kd : Int) (r : Bool) (hpb : pb < W.heap.size) (hqb : qb < W.heap.size) (P1 : W.cell? ⟨pb, po + k * 7 + 1, none⟩ = some (.int .i64 kd)) (P5 : W.cell? ⟨pb, po + k * 7 + 5, none⟩ = some (.bool r)) (Q1 : W.cell? ⟨qb, qo + k * 7 + 1, none⟩ = some (.int .i64 kd)) (Q5 : W.cell? ⟨qb, qo + k * 7 + 5, none⟩ = some (.bool r)) (i1 : (k : Int) < (n : Int))
    (hE : ∀ u, Kp W u → Q .normal { tmps := #[s0, s1, s2, .slice (some ⟨qb, qo, none⟩) n c8, s4, s5, s6, .slice (some ⟨pb, po, none⟩) n c9, s8, s9, .int .i64 (k : Int), s11, s12, s13, s14, s15, s16, s17, s18, s19, s20, s21, s22, s23, s24, s25, s26, s27, s28, s29, s30, s31, s32, s33, s34, s35, s36, s37, s38, s39, s40, s41, s42, s43, s44, s45, s46, s47, s48, s49, s50, s51, s52, s53, s54, s55, s56, s57, s58, s59, s60, s61, s62, s63, s64, s65, s66, s67, s68, s69, s70, s71, s72, s73, s74, s75, s76, s77, s78, s79, s80, s81, s82, s83, s84, s85, s86, s87, .slice (some ⟨pb, po, none⟩) n c9, .int .i64 (k : Int), .pointer (some ⟨pb, po + k * 7, none⟩), .pointer (some ⟨pb, po + k * 7 + 5, none⟩), .bool r, .slice (some ⟨qb, qo, none⟩) n c8, .int .i64 (k : Int), .pointer (some ⟨qb, qo + k * 7, none⟩), .pointer (some ⟨qb, qo + k * 7 + 5, none⟩), .bool r, .bool false, .bool false, .slice (some ⟨pb, po, none⟩) n c9, .int .i64 (k : Int), .pointer (some ⟨pb, po + k * 7, none⟩), .pointer (some ⟨pb, po + k * 7 + 1, none⟩), .pointer (some ⟨pb, po + k * 7 + 1, none⟩), .int .i64 kd, .slice (some ⟨qb, qo, none⟩) n c8, .int .i64 (k : Int), .pointer (some ⟨qb, qo + k * 7, none⟩), .pointer (some ⟨qb, qo + k * 7 + 1, none⟩), .pointer (some ⟨qb, qo + k * 7 + 1, none⟩), .int .i64 kd, .bool false, .bool false], defers := [] } u) :
    (Code.region 20 (regArr Try.f4 20) true).wp Try.prog Q { tmps := #[s0, s1, s2, .slice (some ⟨qb, qo, none⟩) n c8, s4, s5, s6, .slice (some ⟨pb, po, none⟩) n c9, s8, s9, .int .i64 (k : Int), s11, s12, s13, s14, s15, s16, s17, s18, s19, s20, s21, s22, s23, s24, s25, s26, s27, s28, s29, s30, s31, s32, s33, s34, s35, s36, s37, s38, s39, s40, s41, s42, s43, s44, s45, s46, s47, s48, s49, s50, s51, s52, s53, s54, s55, s56, s57, s58, s59, s60, s61, s62, s63, s64, s65, s66, s67, s68, s69, s70, s71, s72, s73, s74, s75, s76, s77, s78, s79, s80, s81, s82, s83, s84, s85, s86, s87, s88, s89, s90, s91, s92, s93, s94, s95, s96, s97, s98, s99, s100, s101, s102, s103, s104, s105, s106, s107, s108, s109, s110, s111, s112, s113], defers := [] } W := by
  simp only [regArr, Try.f4, Option.map_some, Option.getD_some, regOf, if_true, if_false, List.append_nil, List.nil_append, List.toList_toArray, Nat.reduceEqDiff, reduceIte]
  refine wp_region_kp [[], [], [0, 1], [2], [3], [], [], [5, 6], [7], [8], [4, 9], [10], [11], [11], [11, 12, 13], [11, 14], [11, 15], [11, 16], [11], [11], [11, 18, 19], [11, 20], [11, 21], [11, 22], [11, 17, 23], [11, 24]] (fun u => Kp W u)
    [fun (y : Value) (u : World) => y = (.slice (some ⟨pb, po, none⟩) n c9 : Value),
     fun (y : Value) (u : World) => y = (.int .i64 (k : Int) : Value),
     fun (y : Value) (u : World) => y = (.pointer (some ⟨pb, po + k * 7, none⟩) : Value),
     fun (y : Value) (u : World) => y = (.pointer (some ⟨pb, po + k * 7 + 5, none⟩) : Value),
     fun (y : Value) (u : World) => y = (.bool r : Value),
     fun (y : Value) (u : World) => y = (.slice (some ⟨qb, qo, none⟩) n c8 : Value),
     fun (y : Value) (u : World) => y = (.int .i64 (k : Int) : Value),
     fun (y : Value) (u : World) => y = (.pointer (some ⟨qb, qo + k * 7, none⟩) : Value),
     fun (y : Value) (u : World) => y = (.pointer (some ⟨qb, qo + k * 7 + 5, none⟩) : Value),
     fun (y : Value) (u : World) => y = (.bool r : Value),
     fun (y : Value) (u : World) => y = (.bool false : Value),
     fun (y : Value) (u : World) => y = (.bool false : Value),
     fun (y : Value) (u : World) => y = (.slice (some ⟨pb, po, none⟩) n c9 : Value),
     fun (y : Value) (u : World) => y = (.int .i64 (k : Int) : Value),
     fun (y : Value) (u : World) => y = (.pointer (some ⟨pb, po + k * 7, none⟩) : Value),
     fun (y : Value) (u : World) => y = (.pointer (some ⟨pb, po + k * 7 + 1, none⟩) : Value),
     fun (y : Value) (u : World) => y = (.pointer (some ⟨pb, po + k * 7 + 1, none⟩) : Value),
     fun (y : Value) (u : World) => y = (.int .i64 kd : Value),
     fun (y : Value) (u : World) => y = (.slice (some ⟨qb, qo, none⟩) n c8 : Value),
     fun (y : Value) (u : World) => y = (.int .i64 (k : Int) : Value),
     fun (y : Value) (u : World) => y = (.pointer (some ⟨qb, qo + k * 7, none⟩) : Value),
     fun (y : Value) (u : World) => y = (.pointer (some ⟨qb, qo + k * 7 + 1, none⟩) : Value),
     fun (y : Value) (u : World) => y = (.pointer (some ⟨qb, qo + k * 7 + 1, none⟩) : Value),
     fun (y : Value) (u : World) => y = (.int .i64 kd : Value),
     fun (y : Value) (u : World) => y = (.bool false : Value),
     fun (y : Value) (u : World) => y = (.bool false : Value)]
    (by kernel_rfl) (by kernel_rfl) (by kernel_rfl) (by kernel_rfl) ((Kp.refl _).drew) (fun _ _ hk h => h.trans hk) ⟨fun _ _ _ _ h => h, fun _ _ _ _ h => h, fun _ _ _ _ h => h, fun _ _ _ _ h => h, fun _ _ _ _ h => h, fun _ _ _ _ h => h, fun _ _ _ _ h => h, fun _ _ _ _ h => h, fun _ _ _ _ h => h, fun _ _ _ _ h => h, fun _ _ _ _ h => h, fun _ _ _ _ h => h, fun _ _ _ _ h => h, fun _ _ _ _ h => h, fun _ _ _ _ h => h, fun _ _ _ _ h => h, fun _ _ _ _ h => h, fun _ _ _ _ h => h, fun _ _ _ _ h => h, fun _ _ _ _ h => h, fun _ _ _ _ h => h, fun _ _ _ _ h => h, fun _ _ _ _ h => h, fun _ _ _ _ h => h, fun _ _ _ _ h => h, fun _ _ _ _ h => h, trivial⟩ ⟨?sb0, ?sb1, ?sb2, ?sb3, ?sb4, ?sb5, ?sb6, ?sb7, ?sb8, ?sb9, ?sb10, ?sb11, ?sb12, ?sb13, ?sb14, ?sb15, ?sb16, ?sb17, ?sb18, ?sb19, ?sb20, ?sb21, ?sb22, ?sb23, ?sb24, ?sb25, trivial⟩ ?hEb
  case sb0 =>
    refine OpStepK.by_ ?_
    intro a x u ht hs hg hd K hK
    clear hd
    refine OpGoal.live (wanted_free (by kernel_rfl)) ?_
    have e7 : a.eval (Operand.tmp 7) = (.slice (some ⟨pb, po, none⟩) n c9 : Value) := (ht 7).trans (by kernel_rfl)
    clear ht hs
    refine BigFrame.wp_move _ rfl ?_
    exact hK.out _ _ (Kp.refl _) e7
  case sb1 =>
    refine OpStepK.by_ ?_
    intro a x u ht hs hg hd K hK
    clear hd
    refine OpGoal.live (wanted_free (by kernel_rfl)) ?_
    have e10 : a.eval (Operand.tmp 10) = (.int .i64 (k : Int) : Value) := (ht 10).trans (by kernel_rfl)
    clear ht hs
    refine BigFrame.wp_move _ rfl ?_
    exact hK.out _ _ (Kp.refl _) e10
  case sb2 =>
    refine OpStepK.by_ ?_
    intro a x u ht hs hg hd K hK
    have d0 : (x 0) = .slice (some ⟨pb, po, none⟩) n c9 := And.left hd
    have d1 : (x 1) = .int .i64 (k : Int) := And.left (And.right hd)
    clear hd
    refine OpGoal.live (wanted_free (by kernel_rfl)) ?_
    have e88 : a.tmps[88]? = some (.slice (some ⟨pb, po, none⟩) n c9 : Value) := (hs 88).trans (Eq.trans (b := some (x 0)) (by kernel_rfl) (by rw [d0]))
    have e89 : a.tmps[89]? = some (.int .i64 (k : Int) : Value) := (hs 89).trans (Eq.trans (b := some (x 1)) (by kernel_rfl) (by rw [d1]))
    clear d0 d1
    clear ht hs
    go_simp
    exact hK.out _ _ (Kp.refl _) rfl
  case sb3 =>
    refine OpStepK.by_ ?_
    intro a x u ht hs hg hd K hK
    have d2 : (x 2) = .pointer (some ⟨pb, po + k * 7, none⟩) := And.left hd
    clear hd
    refine OpGoal.live (wanted_free (by kernel_rfl)) ?_
    have e90 : a.tmps[90]? = some (.pointer (some ⟨pb, po + k * 7, none⟩) : Value) := (hs 90).trans (Eq.trans (b := some (x 2)) (by kernel_rfl) (by rw [d2]))
    clear d2
    clear ht hs
    go_simp
    exact hK.out _ _ (Kp.refl _) rfl
  case sb4 =>
    refine OpStepK.by_ ?_
    intro a x u ht hs hg hd K hK
    have d3 : (x 3) = .pointer (some ⟨pb, po + k * 7 + 5, none⟩) := And.left hd
    clear hd
    refine OpGoal.live (wanted_free (by kernel_rfl)) ?_
    have e91 : a.tmps[91]? = some (.pointer (some ⟨pb, po + k * 7 + 5, none⟩) : Value) := (hs 91).trans (Eq.trans (b := some (x 3)) (by kernel_rfl) (by rw [d3]))
    clear d3
    clear ht hs
    have q0 := cell_kp hg hpb P5
    go_simp
    exact hK.out _ _ (Kp.refl _) rfl
  case sb5 =>
    refine OpStepK.by_ ?_
    intro a x u ht hs hg hd K hK
    clear hd
    refine OpGoal.live (wanted_free (by kernel_rfl)) ?_
    have e3 : a.eval (Operand.tmp 3) = (.slice (some ⟨qb, qo, none⟩) n c8 : Value) := (ht 3).trans (by kernel_rfl)
    clear ht hs
    refine BigFrame.wp_move _ rfl ?_
    exact hK.out _ _ (Kp.refl _) e3
  case sb6 =>
    refine OpStepK.by_ ?_
    intro a x u ht hs hg hd K hK
    clear hd
    refine OpGoal.live (wanted_free (by kernel_rfl)) ?_
    have e10 : a.eval (Operand.tmp 10) = (.int .i64 (k : Int) : Value) := (ht 10).trans (by kernel_rfl)
    clear ht hs
    refine BigFrame.wp_move _ rfl ?_
    exact hK.out _ _ (Kp.refl _) e10
  case sb7 =>
    refine OpStepK.by_ ?_
    intro a x u ht hs hg hd K hK
    have d5 : (x 5) = .slice (some ⟨qb, qo, none⟩) n c8 := And.left hd
    have d6 : (x 6) = .int .i64 (k : Int) := And.left (And.right hd)
    clear hd
    refine OpGoal.live (wanted_free (by kernel_rfl)) ?_
    have e93 : a.tmps[93]? = some (.slice (some ⟨qb, qo, none⟩) n c8 : Value) := (hs 93).trans (Eq.trans (b := some (x 5)) (by kernel_rfl) (by rw [d5]))
    have e94 : a.tmps[94]? = some (.int .i64 (k : Int) : Value) := (hs 94).trans (Eq.trans (b := some (x 6)) (by kernel_rfl) (by rw [d6]))
    clear d5 d6
    clear ht hs
    go_simp
    exact hK.out _ _ (Kp.refl _) rfl
  case sb8 =>
    refine OpStepK.by_ ?_
    intro a x u ht hs hg hd K hK
    have d7 : (x 7) = .pointer (some ⟨qb, qo + k * 7, none⟩) := And.left hd
    clear hd
    refine OpGoal.live (wanted_free (by kernel_rfl)) ?_
    have e95 : a.tmps[95]? = some (.pointer (some ⟨qb, qo + k * 7, none⟩) : Value) := (hs 95).trans (Eq.trans (b := some (x 7)) (by kernel_rfl) (by rw [d7]))
    clear d7
    clear ht hs
    go_simp
    exact hK.out _ _ (Kp.refl _) rfl
  case sb9 =>
    refine OpStepK.by_ ?_
    intro a x u ht hs hg hd K hK
    have d8 : (x 8) = .pointer (some ⟨qb, qo + k * 7 + 5, none⟩) := And.left hd
    clear hd
    refine OpGoal.live (wanted_free (by kernel_rfl)) ?_
    have e96 : a.tmps[96]? = some (.pointer (some ⟨qb, qo + k * 7 + 5, none⟩) : Value) := (hs 96).trans (Eq.trans (b := some (x 8)) (by kernel_rfl) (by rw [d8]))
    clear d8
    clear ht hs
    have q0 := cell_kp hg hqb Q5
    go_simp
    exact hK.out _ _ (Kp.refl _) rfl
  case sb10 =>
    refine OpStepK.by_ ?_
    intro a x u ht hs hg hd K hK
    have d4 : (x 4) = .bool r := And.left hd
    have d9 : (x 9) = .bool r := And.left (And.right hd)
    clear hd
    refine OpGoal.live (wanted_free (by kernel_rfl)) ?_
    have e92 : a.tmps[92]? = some (.bool r : Value) := (hs 92).trans (Eq.trans (b := some (x 4)) (by kernel_rfl) (by rw [d4]))
    have e97 : a.tmps[97]? = some (.bool r : Value) := (hs 97).trans (Eq.trans (b := some (x 9)) (by kernel_rfl) (by rw [d9]))
    clear d4 d9
    clear ht hs
    go_simp
    exact hK.out _ _ (Kp.refl _) rfl
  case sb11 =>
    refine OpStepK.by_ ?_
    intro a x u ht hs hg hd K hK
    have d10 : (x 10) = .bool false := And.left hd
    clear hd
    refine OpGoal.live (wanted_free (by kernel_rfl)) ?_
    have e98 : a.eval (Operand.tmp 98) = (.bool false : Value) := (ht 98).trans (Eq.trans (b := x 10) (by kernel_rfl) d10)
    clear d10
    clear ht hs
    refine BigFrame.wp_move _ rfl ?_
    exact hK.out _ _ (Kp.refl _) e98
  case sb12 =>
    refine OpStepK.by_ ?_
    intro a x u ht hs hg hd K hK
    have d11 : (x 11) = .bool false := And.left hd
    clear hd
    refine OpGoal.live (wanted_yes (j := 11) (d := 99) (by kernel_rfl) (by kernel_rfl) ((hs 99).trans (Eq.trans (b := some (x 11)) (by kernel_rfl) (by rw [d11])))) ?_
    have e7 : a.eval (Operand.tmp 7) = (.slice (some ⟨pb, po, none⟩) n c9 : Value) := (ht 7).trans (by kernel_rfl)
    clear d11
    clear ht hs
    refine BigFrame.wp_move _ rfl ?_
    exact hK.out _ _ (Kp.refl _) e7
  case sb13 =>
    refine OpStepK.by_ ?_
    intro a x u ht hs hg hd K hK
    have d11 : (x 11) = .bool false := And.left hd
    clear hd
    refine OpGoal.live (wanted_yes (j := 11) (d := 99) (by kernel_rfl) (by kernel_rfl) ((hs 99).trans (Eq.trans (b := some (x 11)) (by kernel_rfl) (by rw [d11])))) ?_
    have e10 : a.eval (Operand.tmp 10) = (.int .i64 (k : Int) : Value) := (ht 10).trans (by kernel_rfl)
    clear d11
    clear ht hs
    refine BigFrame.wp_move _ rfl ?_
    exact hK.out _ _ (Kp.refl _) e10
  case sb14 =>
    refine OpStepK.by_ ?_
    intro a x u ht hs hg hd K hK
    have d11 : (x 11) = .bool false := And.left hd
    have d12 : (x 12) = .slice (some ⟨pb, po, none⟩) n c9 := And.left (And.right hd)
    have d13 : (x 13) = .int .i64 (k : Int) := And.left (And.right (And.right hd))
    clear hd
    refine OpGoal.live (wanted_yes (j := 11) (d := 99) (by kernel_rfl) (by kernel_rfl) ((hs 99).trans (Eq.trans (b := some (x 11)) (by kernel_rfl) (by rw [d11])))) ?_
    have e100 : a.tmps[100]? = some (.slice (some ⟨pb, po, none⟩) n c9 : Value) := (hs 100).trans (Eq.trans (b := some (x 12)) (by kernel_rfl) (by rw [d12]))
    have e101 : a.tmps[101]? = some (.int .i64 (k : Int) : Value) := (hs 101).trans (Eq.trans (b := some (x 13)) (by kernel_rfl) (by rw [d13]))
    clear d11 d12 d13
    clear ht hs
    go_simp
    exact hK.out _ _ (Kp.refl _) rfl
  case sb15 =>
    refine OpStepK.by_ ?_
    intro a x u ht hs hg hd K hK
    have d11 : (x 11) = .bool false := And.left hd
    have d14 : (x 14) = .pointer (some ⟨pb, po + k * 7, none⟩) := And.left (And.right hd)
    clear hd
    refine OpGoal.live (wanted_yes (j := 11) (d := 99) (by kernel_rfl) (by kernel_rfl) ((hs 99).trans (Eq.trans (b := some (x 11)) (by kernel_rfl) (by rw [d11])))) ?_
    have e102 : a.tmps[102]? = some (.pointer (some ⟨pb, po + k * 7, none⟩) : Value) := (hs 102).trans (Eq.trans (b := some (x 14)) (by kernel_rfl) (by rw [d14]))
    clear d11 d14
    clear ht hs
    go_simp
    exact hK.out _ _ (Kp.refl _) rfl
  case sb16 =>
    refine OpStepK.by_ ?_
    intro a x u ht hs hg hd K hK
    have d11 : (x 11) = .bool false := And.left hd
    have d15 : (x 15) = .pointer (some ⟨pb, po + k * 7 + 1, none⟩) := And.left (And.right hd)
    clear hd
    refine OpGoal.live (wanted_yes (j := 11) (d := 99) (by kernel_rfl) (by kernel_rfl) ((hs 99).trans (Eq.trans (b := some (x 11)) (by kernel_rfl) (by rw [d11])))) ?_
    have e103 : a.tmps[103]? = some (.pointer (some ⟨pb, po + k * 7 + 1, none⟩) : Value) := (hs 103).trans (Eq.trans (b := some (x 15)) (by kernel_rfl) (by rw [d15]))
    clear d11 d15
    clear ht hs
    go_simp
    exact hK.out _ _ (Kp.refl _) rfl
  case sb17 =>
    refine OpStepK.by_ ?_
    intro a x u ht hs hg hd K hK
    have d11 : (x 11) = .bool false := And.left hd
    have d16 : (x 16) = .pointer (some ⟨pb, po + k * 7 + 1, none⟩) := And.left (And.right hd)
    clear hd
    refine OpGoal.live (wanted_yes (j := 11) (d := 99) (by kernel_rfl) (by kernel_rfl) ((hs 99).trans (Eq.trans (b := some (x 11)) (by kernel_rfl) (by rw [d11])))) ?_
    have e104 : a.tmps[104]? = some (.pointer (some ⟨pb, po + k * 7 + 1, none⟩) : Value) := (hs 104).trans (Eq.trans (b := some (x 16)) (by kernel_rfl) (by rw [d16]))
    clear d11 d16
    clear ht hs
    have q0 := cell_kp hg hpb P1
    go_simp
    exact hK.out _ _ (Kp.refl _) rfl
  case sb18 =>
    refine OpStepK.by_ ?_
    intro a x u ht hs hg hd K hK
    have d11 : (x 11) = .bool false := And.left hd
    clear hd
    refine OpGoal.live (wanted_yes (j := 11) (d := 99) (by kernel_rfl) (by kernel_rfl) ((hs 99).trans (Eq.trans (b := some (x 11)) (by kernel_rfl) (by rw [d11])))) ?_
    have e3 : a.eval (Operand.tmp 3) = (.slice (some ⟨qb, qo, none⟩) n c8 : Value) := (ht 3).trans (by kernel_rfl)
    clear d11
    clear ht hs
    refine BigFrame.wp_move _ rfl ?_
    exact hK.out _ _ (Kp.refl _) e3
  case sb19 =>
    refine OpStepK.by_ ?_
    intro a x u ht hs hg hd K hK
    have d11 : (x 11) = .bool false := And.left hd
    clear hd
    refine OpGoal.live (wanted_yes (j := 11) (d := 99) (by kernel_rfl) (by kernel_rfl) ((hs 99).trans (Eq.trans (b := some (x 11)) (by kernel_rfl) (by rw [d11])))) ?_
    have e10 : a.eval (Operand.tmp 10) = (.int .i64 (k : Int) : Value) := (ht 10).trans (by kernel_rfl)
    clear d11
    clear ht hs
    refine BigFrame.wp_move _ rfl ?_
    exact hK.out _ _ (Kp.refl _) e10
  case sb20 =>
    refine OpStepK.by_ ?_
    intro a x u ht hs hg hd K hK
    have d11 : (x 11) = .bool false := And.left hd
    have d18 : (x 18) = .slice (some ⟨qb, qo, none⟩) n c8 := And.left (And.right hd)
    have d19 : (x 19) = .int .i64 (k : Int) := And.left (And.right (And.right hd))
    clear hd
    refine OpGoal.live (wanted_yes (j := 11) (d := 99) (by kernel_rfl) (by kernel_rfl) ((hs 99).trans (Eq.trans (b := some (x 11)) (by kernel_rfl) (by rw [d11])))) ?_
    have e106 : a.tmps[106]? = some (.slice (some ⟨qb, qo, none⟩) n c8 : Value) := (hs 106).trans (Eq.trans (b := some (x 18)) (by kernel_rfl) (by rw [d18]))
    have e107 : a.tmps[107]? = some (.int .i64 (k : Int) : Value) := (hs 107).trans (Eq.trans (b := some (x 19)) (by kernel_rfl) (by rw [d19]))
    clear d11 d18 d19
    clear ht hs
    go_simp
    exact hK.out _ _ (Kp.refl _) rfl
  case sb21 =>
    refine OpStepK.by_ ?_
    intro a x u ht hs hg hd K hK
    have d11 : (x 11) = .bool false := And.left hd
    have d20 : (x 20) = .pointer (some ⟨qb, qo + k * 7, none⟩) := And.left (And.right hd)
    clear hd
    refine OpGoal.live (wanted_yes (j := 11) (d := 99) (by kernel_rfl) (by kernel_rfl) ((hs 99).trans (Eq.trans (b := some (x 11)) (by kernel_rfl) (by rw [d11])))) ?_
    have e108 : a.tmps[108]? = some (.pointer (some ⟨qb, qo + k * 7, none⟩) : Value) := (hs 108).trans (Eq.trans (b := some (x 20)) (by kernel_rfl) (by rw [d20]))
    clear d11 d20
    clear ht hs
    go_simp
    exact hK.out _ _ (Kp.refl _) rfl
  case sb22 =>
    refine OpStepK.by_ ?_
    intro a x u ht hs hg hd K hK
    have d11 : (x 11) = .bool false := And.left hd
    have d21 : (x 21) = .pointer (some ⟨qb, qo + k * 7 + 1, none⟩) := And.left (And.right hd)
    clear hd
    refine OpGoal.live (wanted_yes (j := 11) (d := 99) (by kernel_rfl) (by kernel_rfl) ((hs 99).trans (Eq.trans (b := some (x 11)) (by kernel_rfl) (by rw [d11])))) ?_
    have e109 : a.tmps[109]? = some (.pointer (some ⟨qb, qo + k * 7 + 1, none⟩) : Value) := (hs 109).trans (Eq.trans (b := some (x 21)) (by kernel_rfl) (by rw [d21]))
    clear d11 d21
    clear ht hs
    go_simp
    exact hK.out _ _ (Kp.refl _) rfl
  case sb23 =>
    refine OpStepK.by_ ?_
    intro a x u ht hs hg hd K hK
    have d11 : (x 11) = .bool false := And.left hd
    have d22 : (x 22) = .pointer (some ⟨qb, qo + k * 7 + 1, none⟩) := And.left (And.right hd)
    clear hd
    refine OpGoal.live (wanted_yes (j := 11) (d := 99) (by kernel_rfl) (by kernel_rfl) ((hs 99).trans (Eq.trans (b := some (x 11)) (by kernel_rfl) (by rw [d11])))) ?_
    have e110 : a.tmps[110]? = some (.pointer (some ⟨qb, qo + k * 7 + 1, none⟩) : Value) := (hs 110).trans (Eq.trans (b := some (x 22)) (by kernel_rfl) (by rw [d22]))
    clear d11 d22
    clear ht hs
    have q0 := cell_kp hg hqb Q1
    go_simp
    exact hK.out _ _ (Kp.refl _) rfl
  case sb24 =>
    refine OpStepK.by_ ?_
    intro a x u ht hs hg hd K hK
    have d11 : (x 11) = .bool false := And.left hd
    have d17 : (x 17) = .int .i64 kd := And.left (And.right hd)
    have d23 : (x 23) = .int .i64 kd := And.left (And.right (And.right hd))
    clear hd
    refine OpGoal.live (wanted_yes (j := 11) (d := 99) (by kernel_rfl) (by kernel_rfl) ((hs 99).trans (Eq.trans (b := some (x 11)) (by kernel_rfl) (by rw [d11])))) ?_
    have e105 : a.tmps[105]? = some (.int .i64 kd : Value) := (hs 105).trans (Eq.trans (b := some (x 17)) (by kernel_rfl) (by rw [d17]))
    have e111 : a.tmps[111]? = some (.int .i64 kd : Value) := (hs 111).trans (Eq.trans (b := some (x 23)) (by kernel_rfl) (by rw [d23]))
    clear d11 d17 d23
    clear ht hs
    go_simp
    exact hK.out _ _ (Kp.refl _) rfl
  case sb25 =>
    refine OpStepK.by_ ?_
    intro a x u ht hs hg hd K hK
    have d11 : (x 11) = .bool false := And.left hd
    have d24 : (x 24) = .bool false := And.left (And.right hd)
    clear hd
    refine OpGoal.live (wanted_free (by kernel_rfl)) ?_
    have e99 : a.tmps[99]? = some (.bool false : Value) := (hs 99).trans (Eq.trans (b := some (x 11)) (by kernel_rfl) (by rw [d11]))
    have e112 : a.tmps[112]? = some (.bool false : Value) := (hs 112).trans (Eq.trans (b := some (x 24)) (by kernel_rfl) (by rw [d24]))
    clear d11 d24
    clear ht hs
    go_simp
    exact hK.out _ _ (Kp.refl _) rfl
  intro x u hg he
  have d0 : (x 0) = .slice (some ⟨pb, po, none⟩) n c9 := And.left he
  have d1 : (x 1) = .int .i64 (k : Int) := And.left (And.right he)
  have d2 : (x 2) = .pointer (some ⟨pb, po + k * 7, none⟩) := And.left (And.right (And.right he))
  have d3 : (x 3) = .pointer (some ⟨pb, po + k * 7 + 5, none⟩) := And.left (And.right (And.right (And.right he)))
  have d4 : (x 4) = .bool r := And.left (And.right (And.right (And.right (And.right he))))
  have d5 : (x 5) = .slice (some ⟨qb, qo, none⟩) n c8 := And.left (And.right (And.right (And.right (And.right (And.right he)))))
  have d6 : (x 6) = .int .i64 (k : Int) := And.left (And.right (And.right (And.right (And.right (And.right (And.right he))))))
  have d7 : (x 7) = .pointer (some ⟨qb, qo + k * 7, none⟩) := And.left (And.right (And.right (And.right (And.right (And.right (And.right (And.right he)))))))
  have d8 : (x 8) = .pointer (some ⟨qb, qo + k * 7 + 5, none⟩) := And.left (And.right (And.right (And.right (And.right (And.right (And.right (And.right (And.right he))))))))
  have d9 : (x 9) = .bool r := And.left (And.right (And.right (And.right (And.right (And.right (And.right (And.right (And.right (And.right he)))))))))
  have d10 : (x 10) = .bool false := And.left (And.right (And.right (And.right (And.right (And.right (And.right (And.right (And.right (And.right (And.right he))))))))))
  have d11 : (x 11) = .bool false := And.left (And.right (And.right (And.right (And.right (And.right (And.right (And.right (And.right (And.right (And.right (And.right he)))))))))))
  have d12 : (x 12) = .slice (some ⟨pb, po, none⟩) n c9 := And.left (And.right (And.right (And.right (And.right (And.right (And.right (And.right (And.right (And.right (And.right (And.right (And.right he))))))))))))
  have d13 : (x 13) = .int .i64 (k : Int) := And.left (And.right (And.right (And.right (And.right (And.right (And.right (And.right (And.right (And.right (And.right (And.right (And.right (And.right he)))))))))))))
  have d14 : (x 14) = .pointer (some ⟨pb, po + k * 7, none⟩) := And.left (And.right (And.right (And.right (And.right (And.right (And.right (And.right (And.right (And.right (And.right (And.right (And.right (And.right (And.right he))))))))))))))
  have d15 : (x 15) = .pointer (some ⟨pb, po + k * 7 + 1, none⟩) := And.left (And.right (And.right (And.right (And.right (And.right (And.right (And.right (And.right (And.right (And.right (And.right (And.right (And.right (And.right (And.right he)))))))))))))))
  have d16 : (x 16) = .pointer (some ⟨pb, po + k * 7 + 1, none⟩) := And.left (And.right (And.right (And.right (And.right (And.right (And.right (And.right (And.right (And.right (And.right (And.right (And.right (And.right (And.right (And.right (And.right he))))))))))))))))
  have d17 : (x 17) = .int .i64 kd := And.left (And.right (And.right (And.right (And.right (And.right (And.right (And.right (And.right (And.right (And.right (And.right (And.right (And.right (And.right (And.right (And.right (And.right he)))))))))))))))))
  have d18 : (x 18) = .slice (some ⟨qb, qo, none⟩) n c8 := And.left (And.right (And.right (And.right (And.right (And.right (And.right (And.right (And.right (And.right (And.right (And.right (And.right (And.right (And.right (And.right (And.right (And.right (And.right he))))))))))))))))))
  have d19 : (x 19) = .int .i64 (k : Int) := And.left (And.right (And.right (And.right (And.right (And.right (And.right (And.right (And.right (And.right (And.right (And.right (And.right (And.right (And.right (And.right (And.right (And.right (And.right (And.right he)))))))))))))))))))
  have d20 : (x 20) = .pointer (some ⟨qb, qo + k * 7, none⟩) := And.left (And.right (And.right (And.right (And.right (And.right (And.right (And.right (And.right (And.right (And.right (And.right (And.right (And.right (And.right (And.right (And.right (And.right (And.right (And.right (And.right he))))))))))))))))))))
  have d21 : (x 21) = .pointer (some ⟨qb, qo + k * 7 + 1, none⟩) := And.left (And.right (And.right (And.right (And.right (And.right (And.right (And.right (And.right (And.right (And.right (And.right (And.right (And.right (And.right (And.right (And.right (And.right (And.right (And.right (And.right (And.right he)))))))))))))))))))))
  have d22 : (x 22) = .pointer (some ⟨qb, qo + k * 7 + 1, none⟩) := And.left (And.right (And.right (And.right (And.right (And.right (And.right (And.right (And.right (And.right (And.right (And.right (And.right (And.right (And.right (And.right (And.right (And.right (And.right (And.right (And.right (And.right (And.right he))))))))))))))))))))))
  have d23 : (x 23) = .int .i64 kd := And.left (And.right (And.right (And.right (And.right (And.right (And.right (And.right (And.right (And.right (And.right (And.right (And.right (And.right (And.right (And.right (And.right (And.right (And.right (And.right (And.right (And.right (And.right (And.right he)))))))))))))))))))))))
  have d24 : (x 24) = .bool false := And.left (And.right (And.right (And.right (And.right (And.right (And.right (And.right (And.right (And.right (And.right (And.right (And.right (And.right (And.right (And.right (And.right (And.right (And.right (And.right (And.right (And.right (And.right (And.right (And.right he))))))))))))))))))))))))
  have d25 : (x 25) = .bool false := And.left (And.right (And.right (And.right (And.right (And.right (And.right (And.right (And.right (And.right (And.right (And.right (And.right (And.right (And.right (And.right (And.right (And.right (And.right (And.right (And.right (And.right (And.right (And.right (And.right (And.right he)))))))))))))))))))))))))
  clear he
  refine ⟨?_⟩
  simp only [putsFrom, Act.put, List.setIfInBounds_toArray, List.set_cons_zero, List.set_cons_succ, Nat.reduceAdd, d0, d1, d2, d3, d4, d5, d6, d7, d8, d9, d10, d11, d12, d13, d14, d15, d16, d17, d18, d19, d20, d21, d22, d23, d24, d25]
  clear d0 d1 d2 d3 d4 d5 d6 d7 d8 d9 d10 d11 d12 d13 d14 d15 d16 d17 d18 d19 d20 d21 d22 d23 d24 d25
  exact hE _ hg
def okP (p : PanicM) : Prop := okI p.serial ∧ (∀ x ∈ p.val.l, okI x) ∧ okI p.val.k ∧ okI p.val.n ∧ p.val.s.size ≤ 140737488351232 ∧ p.val.l.length * 8 ≤ 140737488351232
def CePO (base : Nat) (w : World) (cs : List Value) (p : PanicM) : Prop := ∃ lv, cs = [.int .i64 p.serial, .int .i64 p.val.k, .int .i64 p.val.n, .string p.val.s, lv, .bool p.rcd, .bool p.abt] ∧ OwnI w base lv p.val.l ∧ okP p
theorem CePO.kp {base : Nat} : ElKp (CePO base) := fun _ _ _ _ hk ⟨lv, h, h0, h1⟩ => ⟨lv, h, own_keep h0 hk, h1⟩
theorem CePO.ce {base : Nat} {w : World} {cs : List Value} {p : PanicM} (h : CePO base w cs p) : CePanic w cs p := by
  obtain ⟨lv, h, h0, h1, h2, h3, h4, h5, h6⟩ := h
  exact ⟨lv, h, h1, h0.rd (by omega) h2, h3, h4, h5, h6⟩
def OPcs (w : World) (base : Nat) (v : Value) (l : List PanicM) : Prop := OwnL (CePO base) 7 46 w base v l
theorem OPcs.kp {w w' : World} {base : Nat} {v : Value} {l : List PanicM} (h : OPcs w base v l) (hk : Kp w w') : OPcs w' base v l := OwnL.kp CePO.kp h hk
theorem OPcs.rd {w : World} {base : Nat} {v : Value} {l : List PanicM} (h : OPcs w base v l) : RdL CePanic 7 w v l := (OwnL.rd h).mono fun _ _ => CePO.ce
theorem OPcs.snoc {w w' : World} {base B : Nat} {v v' lv : Value} {l : List PanicM} {p : PanicM} {n : Nat} {xs : List Value} (hx : Chunk (CePO base) 7 w xs l) (hown : w.ownsRow base 46 7 v l.length xs) (hg : w.grownBy w' v.ownBlock) (hn : n = l.length + 1) (h : w'.ownsRow base 46 7 v' n (xs ++ [.int .i64 p.serial, .int .i64 p.val.k, .int .i64 p.val.n, .string p.val.s, lv, .bool p.rcd, .bool p.abt])) (ho : OwnI w B lv p.val.l) (hB : base ≤ B) (hok : okP p) : OPcs w' base v' (l ++ [p]) := by
  have ht := Touch.of_grown hown hg
  have hc : ∀ cs a, CePO base w cs a → CePO base w' cs a := fun cs a ⟨la, g1, g2, g3⟩ => ⟨la, g1, ownsRow_touch (by decide) g2 ht, g3⟩
  exact OwnL.snoc hn hx hc (hc _ p ⟨lv, rfl, own_base hB ho, hok⟩) rfl h
theorem texts_bk (l : List PanicM) : textsN l + l.length ≤ (l.map fun m => bkVal m.val + 1).sum := by
  induction l with
  | nil => simp [textsN]
  | cons p l ih => simp only [textsN, List.length_cons, List.map_cons, List.sum_cons, bkVal] at ih ⊢; omega

def nk (k : Int) : Int := if k = 1 ∨ k = 3 then k else 1
def ns (s : ByteArray) : ByteArray := if 100 < s.size then s.extract 0 100 else s
def normP (p : PanicM) : PanicM := ⟨p.serial, ⟨nk p.val.k, p.val.n, ns p.val.s, p.val.l⟩, p.rcd, p.abt⟩
theorem ns_le (s : ByteArray) : (ns s).size ≤ s.size ∧ (ns s).size ≤ 100 := by
  unfold ns
  split
  · rw [ByteArray.size_extract]; omega
  · omega
theorem norm_okR {p : PanicM} (h : okI p.val.n) : okR (normP p) := by
  refine ⟨h, ?_⟩
  show nk p.val.k = 1 ∨ nk p.val.k = 3 ∧ (ns p.val.s).size ≤ 100
  unfold nk
  split
  · rename_i h1
    rcases h1 with h1 | h1
    · exact .inl h1
    · exact .inr ⟨h1, (ns_le _).2⟩
  · exact .inl rfl
theorem norm_okP {p : PanicM} (h : okP p) : okP (normP p) := by
  obtain ⟨h0, h1, h2, h3, h4, h5⟩ := h
  refine ⟨h0, h1, ?_, h3, ?_, h5⟩
  · show okI (nk p.val.k)
    unfold nk
    split
    · exact h2
    · unfold okI; omega
  · show (ns p.val.s).size ≤ _
    have := (ns_le p.val.s).1; omega
theorem norm_texts (l : List PanicM) : textsN (l.map normP) ≤ textsN l := by
  induction l with
  | nil => exact Nat.le_refl _
  | cons p l ih =>
    show (ns p.val.s).size + textsN (l.map normP) ≤ p.val.s.size + textsN l
    have := (ns_le p.val.s).1; omega
def pnc3r : PanicM := ⟨0, ⟨1, 3, ⟨#[]⟩, []⟩, true, false⟩
theorem crash3r : crashM [pnc3r] = [112, 97, 110, 105, 99, 58, 32, 51, 32, 91, 114, 101, 99, 111, 118, 101, 114, 101, 100, 93, 10] := by
  have h : rtextM 1 3 ⟨#[]⟩ = [51] := by
    unfold rtextM
    rw [if_pos rfl]
    show Lib.itoa 3 = [51]
    unfold Lib.itoa
    rw [if_neg (by omega)]
    exact dec_small 3 (by omega)
  rw [crash_one]
  show (panicB ++ rtextM 1 3 ⟨#[]⟩) ++ ((if true then recB else []) ++ [10]) = _
  rw [h]; rfl
theorem rd3r (w3 : World) : RdL CePanic 7 (w3.alloc (.cells #[.int .i64 0, .int .i64 1, .int .i64 3, .string ⟨#[]⟩, .slice none 0 0, .bool true, .bool false] 46)) (.slice (some ⟨w3.heap.size, 0, none⟩) 1 1) [pnc3r] := by
  refine ⟨some ⟨w3.heap.size, 0, none⟩, 1, rfl, Nat.le_refl _, fun i x hx => ?_⟩
  match i, hx with
  | 0, hx =>
    cases hx
    refine ⟨w3.heap.size, 0, [.int .i64 0, .int .i64 1, .int .i64 3, .string ⟨#[]⟩, .slice none 0 0, .bool true, .bool false], rfl, by simp, ⟨.slice none 0 0, rfl, ⟨by decide, by decide⟩, RdInts.nil_ _, ⟨by decide, by decide⟩, ⟨by decide, by decide⟩, by decide, by decide⟩, rfl, fun j hj => ?_⟩
    have hb := blk_new w3 (.cells #[.int .i64 0, .int .i64 1, .int .i64 3, .string ⟨#[]⟩, .slice none 0 0, .bool true, .bool false] 46)
    match j, hj with
    | 0, _ => exact blk_cell (o := 0) (v := .int .i64 0) hb rfl
    | 1, _ => exact blk_cell (o := 1) (v := .int .i64 1) hb rfl
    | 2, _ => exact blk_cell (o := 2) (v := .int .i64 3) hb rfl
    | 3, _ => exact blk_cell (o := 3) (v := .string ⟨#[]⟩) hb rfl
    | 4, _ => exact blk_cell (o := 4) (v := .slice none 0 0) hb rfl
    | 5, _ => exact blk_cell (o := 5) (v := .bool true) hb rfl
    | 6, _ => exact blk_cell (o := 6) (v := .bool false) hb rfl
  | i + 1, hx => simp at hx
theorem crash3r_any (w3 : World) : Calls Try.prog 15 #[.slice (some ⟨w3.heap.size, 0, none⟩) 1 1] (w3.alloc (.cells #[.int .i64 0, .int .i64 1, .int .i64 3, .string ⟨#[]⟩, .slice none 0 0, .bool true, .bool false] 46)) fun e w' => e = .returned (.string ⟨#[112, 97, 110, 105, 99, 58, 32, 51, 32, 91, 114, 101, 99, 111, 118, 101, 114, 101, 100, 93, 10]⟩) ∧ Kp w3 w' := by
  refine (crash_any _ _ _ (rd3r w3) (by rw [crash3r]; decide) (by decide)).mono ?_
  rintro e w' ⟨rfl, hk⟩
  rw [crash3r]
  exact ⟨rfl, Kp.trans ((Kp.refl _).alloc _) hk⟩
/-- The panic's box, its value's row, and memory besides. -/
def PX (wr W : World) (b : Nat) (sr k n : Int) (s : ByteArray) (A : Option Addr) (xs : List Int) (c : Nat) (r g : Bool) : Prop := W.heap[b]? = some (.cells #[.int .i64 sr, .int .i64 k, .int .i64 n, .string s, .slice A xs.length c, .bool r, .bool g] 46 (0, 0)) ∧ OwnI W (b + 1) (.slice A xs.length c) xs ∧ Kp wr W
theorem PX.setK {wr W : World} {b : Nat} {sr k n : Int} {s : ByteArray} {A : Option Addr} {xs : List Int} {c : Nat} {r g : Bool} (h : PX wr W b sr k n s A xs c r g) (hb : wr.heap.size ≤ b) (k' : Int) : PX wr (W.setCell ⟨b, 1, none⟩ (.int .i64 k')) b sr k' n s A xs c r g :=
  ⟨blk_set h.1 _, ownsRow_setCell_below h.2.1 (by simp) _, h.2.2.setCell hb _⟩
theorem PX.setS {wr W : World} {b : Nat} {sr k n : Int} {s : ByteArray} {A : Option Addr} {xs : List Int} {c : Nat} {r g : Bool} (h : PX wr W b sr k n s A xs c r g) (hb : wr.heap.size ≤ b) (s' : ByteArray) : PX wr (W.setCell ⟨b, 3, none⟩ (.string s')) b sr k n s' A xs c r g :=
  ⟨blk_set h.1 _, ownsRow_setCell_below h.2.1 (by simp) _, h.2.2.setCell hb _⟩
theorem rb_snoc {w wr WX w5 : World} {k : Nat} {N : List PanicM} {p : PanicM} {v v5 : Value} {xs : List Value} {K : Int} {S : ByteArray} {A3 : Option Addr} {c3 : Nat} (hN : N[k]? = some (normP p)) (hlen : (N.take k).length = k) (ho : OPcs wr w.heap.size v (N.take k)) (hown : WX.ownsRow w.heap.size 46 7 v k xs) (hpx : PX wr WX wr.heap.size p.serial K p.val.n S A3 p.val.l c3 p.rcd p.abt) (hg : WX.grownBy w5 v.ownBlock)
    (h : w5.ownsRow w.heap.size 46 7 v5 (k + 1) (xs ++ [.int .i64 p.serial, .int .i64 K, .int .i64 p.val.n, .string S, .slice A3 p.val.l.length c3, .bool p.rcd, .bool p.abt])) (hK : nk p.val.k = K) (hS : ns p.val.s = S) (hok : okP (normP p)) (hwr : w.heap.size ≤ wr.heap.size) : OPcs w5 w.heap.size v5 (N.take (k + 1)) := by
  subst hK; subst hS
  obtain ⟨ys, hown2, hch⟩ := ho.kp hpx.2.2
  rw [hlen] at hown2
  have hxy : ys = xs := by
    rcases hown.2 with ⟨h1, h2⟩ | ⟨g, cap, cur, hv, _, hgg, _, _, _, htk⟩
    · have e1 : xs = [] := by have := hown.1; rw [h2] at this; exact List.eq_nil_of_length_eq_zero (by simpa using this)
      have e2 : ys = [] := by have := hown2.1; rw [h2] at this; exact List.eq_nil_of_length_eq_zero (by simpa using this)
      rw [e1, e2]
    · rcases hown2.2 with ⟨h1, h2⟩ | ⟨g', cap', cur', hv', _, hgg', _, _, _, htk'⟩
      · rw [hv] at h1; cases h1
      · rw [hv] at hv'
        injection hv' with e1 _ _
        injection e1 with e1
        injection e1 with e1 _ _
        subst e1
        rw [hgg] at hgg'
        injection hgg' with e
        injection e with e _ _
        subst e
        rw [← htk, ← htk']
  subst hxy
  rw [List.take_add_one, hN]
  exact OPcs.snoc (p := normP p) (lv := .slice A3 p.val.l.length c3) hch (by rw [hlen]; exact hown) hg (by rw [hlen]) h hpx.2.1 (by omega) hok
theorem back_kind {p : PanicM} (h : okR p) : (backV p.val).k = p.val.k := by
  unfold backV
  rcases h.2 with h1 | ⟨h1, _⟩
  · rw [if_pos h1, h1]
  · rw [h1, if_neg (by decide)]
set_option maxRecDepth 20000 in
set_option maxHeartbeats 16000000 in
theorem walk (v0 : Value) (a0 : List PanicM) (w : World) (w0 : RdPanicsU w v0 a0) :
    Calls Try.prog 4 #[v0] w fun e w' => e = .returned (.bool true) ∧ Kp w w' := by
  obtain ⟨hr, hbk⟩ := w0
  obtain ⟨l, hl⟩ : ∃ l, a0 = l := ⟨_, rfl⟩
  rw [hl] at hr hbk
  clear hl
  have HR := hid hr
  have hok : ∀ p ∈ l, okI p.val.n := fun p hp => by
    obtain ⟨i, hi⟩ := List.mem_iff_getElem?.1 hp
    obtain ⟨A, c, rfl, _⟩ := hr.form
    obtain ⟨_, _, _, _, _, _, _, _, _, _, _, _, _, _, _, h, _⟩ := at_panic hr hi
    exact h
  have HTB := hid (texts_bk l)
  have HLN := hid (show l.length ≤ 1048576 by have := texts_bk l; omega)
  have HNR := hid (show ∀ q ∈ l.map normP, okR q from fun q hq => by
    obtain ⟨p, hp, rfl⟩ := List.mem_map.1 hq
    exact norm_okR (hok p hp))
  have HCL := hid (show (crashM (l.map normP)).length ≤ 1000000000 by
    have h1 := texts_bk l
    have h2 := crash_len (l.map normP) (fun q hq => (HNR.out q hq).1)
    have h3 := norm_texts l
    rw [List.length_map] at h2; omega)
  obtain ⟨A, c, rfl, hc⟩ := hr.form
  clear hr hbk hok hc
  go_enter Try.func4, Try.ntmps4
  go_wp2
  go_loopw [3, 4] (fun o i wr => ∃ k : Nat, k ≤ l.length ∧ i = .int .i64 k ∧ OPcs wr w.heap.size o ((l.map normP).take k) ∧ Kp w wr) (fun _ i _ => l.length - (intOf i).toNat)
  case atStart => exact ⟨0, by omega, rfl, OwnL.nil _ _ _ _ _, Kp.refl _⟩
  case round =>
    obtain ⟨k, hk, rfl, ho, hkp⟩ := hrel
    have HO := hid ho; have HKP := hid hkp
    have hwr := hkp.le
    by_cases hlt : k < l.length
    · have i1 : (k : Int) < (l.length : Int) := by omega
      have k1 : IntKind.i64.wrap ((k : Int) + 1) = (k : Int) + 1 := by have := HLN.out; rw [IntKind.wrap_i64]; omega
      obtain ⟨p, hp⟩ : ∃ p, l[k]? = some p := ⟨_, List.getElem?_eq_getElem hlt⟩
      obtain ⟨b, off, rfl, hb, lv, q0, q1, q2, q3, q4, q5, q6, o0, o1, o2, o3, o4, o5⟩ := at_panic (HR.out.kp CePanic.kp hkp) hp
      have HP := hid hp
      obtain ⟨A2, c2, rfl⟩ := o1.form
      have HOV := hid o1
      have HOK := hid (show okP p from ⟨o0, o1.2.1, o2, o3, o4, o5⟩)
      have hlen : ((l.map normP).take k).length = k := by rw [List.length_take, List.length_map]; omega
      have HLEN := hid hlen
      clear hp o0 o1 o2 o3 o4 o5 ho hkp hlen
      go_upto_region 6 with fail
      have hka := hid ((Kp.refl wr).alloc (.cells #[.int .i64 p.serial, .int .i64 p.val.k, .int .i64 p.val.n, .string p.val.s, .slice A2 p.val.l.length c2, .bool p.rcd, .bool p.abt] 46))
      have HBX := hid (blk_new wr (.cells #[.int .i64 p.serial, .int .i64 p.val.k, .int .i64 p.val.n, .string p.val.s, .slice A2 p.val.l.length c2, .bool p.rcd, .bool p.abt] 46))
      have hzz := hid (show (wr.alloc (.cells #[.int .i64 p.serial, .int .i64 p.val.k, .int .i64 p.val.n, .string p.val.s, .slice A2 p.val.l.length c2, .bool p.rcd, .bool p.abt] 46)).heap.size = wr.heap.size + 1 by simp)
      have HC := hid (own_any _ p.val (wr.alloc (.cells #[.int .i64 p.serial, .int .i64 p.val.k, .int .i64 p.val.n, .string p.val.s, .slice A2 p.val.l.length c2, .bool p.rcd, .bool p.abt] 46)) ⟨_, rfl, HOV.out.kp hka.out, HOK.out.2.2.1, HOK.out.2.2.2.1, HOK.out.2.2.2.2.1, HOK.out.2.2.2.2.2⟩)
      clear q0 q1 q2 q3 q4 q5 q6
      generalize (wr.alloc (.cells #[.int .i64 p.serial, .int .i64 p.val.k, .int .i64 p.val.n, .string p.val.s, .slice A2 p.val.l.length c2, .bool p.rcd, .bool p.abt] 46)) = W1 at hka HBX hzz HC ⊢
      have z1 := blk_cell (o := 1) (v := .int .i64 p.val.k) HBX.out rfl
      have z2 := blk_cell (o := 2) (v := .int .i64 p.val.n) HBX.out rfl
      have z3 := blk_cell (o := 3) (v := .string p.val.s) HBX.out rfl
      have z4 := blk_cell (o := 4) (v := .slice A2 p.val.l.length c2) HBX.out rfl
      have hlx := blk_lt HBX.out
      go_upto_region 7 with (go_at_call 14; go_must (refine HC.out.mono ?_); rintro e' w2 ⟨⟨v2, rfl, lv2, rfl, ho2, _⟩, hk2⟩; rw [hzz.out] at ho2; obtain ⟨A3, c3, rfl⟩ := own_form ho2; have HB2 := hid ((hk2.block _ (blk_lt HBX.out)).trans HBX.out); have HO2 := hid ho2; have HK2 := hid hk2; have y1 := blk_cell (o := 1) (v := .int .i64 p.val.k) HB2.out rfl; have y2 := blk_cell (o := 2) (v := .int .i64 p.val.n) HB2.out rfl; have y3 := blk_cell (o := 3) (v := .string p.val.s) HB2.out rfl; have y4 := blk_cell (o := 4) (v := .slice A2 p.val.l.length c2) HB2.out rfl; have yf := fun j => blk_free (o := j) HB2.out; have hly := blk_lt HB2.out; clear ho2 hk2 z1 z2 z3 z4)
      have HX : Hid (((((w2.setCell ⟨wr.heap.size, 1, none⟩ (.int .i64 p.val.k)).setCell ⟨wr.heap.size, 2, none⟩ (.int .i64 p.val.n)).setCell ⟨wr.heap.size, 3, none⟩ (.string p.val.s)).setCell ⟨wr.heap.size, 4, none⟩ (.slice A3 p.val.l.length c3)).heap[wr.heap.size]? = some (.cells #[.int .i64 p.serial, .int .i64 p.val.k, .int .i64 p.val.n, .string p.val.s, .slice A3 p.val.l.length c3, .bool p.rcd, .bool p.abt] 46 (0, 0))) := hid (blk_set (blk_set (blk_set (blk_set HB2.out _) _) _) _)
      have HM : Hid (OwnI ((((w2.setCell ⟨wr.heap.size, 1, none⟩ (.int .i64 p.val.k)).setCell ⟨wr.heap.size, 2, none⟩ (.int .i64 p.val.n)).setCell ⟨wr.heap.size, 3, none⟩ (.string p.val.s)).setCell ⟨wr.heap.size, 4, none⟩ (.slice A3 p.val.l.length c3)) (wr.heap.size + 1) (.slice A3 p.val.l.length c3) p.val.l) := hid (ownsRow_setCell_below (ownsRow_setCell_below (ownsRow_setCell_below (ownsRow_setCell_below HO2.out (by simp) _) (by simp) _) (by simp) _) (by simp) _)
      have HK : Hid (Kp wr ((((w2.setCell ⟨wr.heap.size, 1, none⟩ (.int .i64 p.val.k)).setCell ⟨wr.heap.size, 2, none⟩ (.int .i64 p.val.n)).setCell ⟨wr.heap.size, 3, none⟩ (.string p.val.s)).setCell ⟨wr.heap.size, 4, none⟩ (.slice A3 p.val.l.length c3))) := hid (((((hka.out.trans HK2.out).setCell (Nat.le_refl _) _).setCell (Nat.le_refl _) _).setCell (Nat.le_refl _) _).setCell (Nat.le_refl _) _)
      clear y1 y2 y3 y4 yf hlx hly
      generalize ((((w2.setCell ⟨wr.heap.size, 1, none⟩ (.int .i64 p.val.k)).setCell ⟨wr.heap.size, 2, none⟩ (.int .i64 p.val.n)).setCell ⟨wr.heap.size, 3, none⟩ (.string p.val.s)).setCell ⟨wr.heap.size, 4, none⟩ (.slice A3 p.val.l.length c3)) = W at HX HM HK ⊢
      have HPX := hid (show PX wr W wr.heap.size p.serial p.val.k p.val.n p.val.s A3 p.val.l c3 p.rcd p.abt from ⟨HX.out, HM.out, HK.out⟩)
      clear HM HK
      have x0 := blk_cell (o := 0) (v := .int .i64 p.serial) HX.out rfl
      have x1 := blk_cell (o := 1) (v := .int .i64 p.val.k) HX.out rfl
      have x2 := blk_cell (o := 2) (v := .int .i64 p.val.n) HX.out rfl
      have x3 := blk_cell (o := 3) (v := .string p.val.s) HX.out rfl
      have x4 := blk_cell (o := 4) (v := .slice A3 p.val.l.length c3) HX.out rfl
      have x5 := blk_cell (o := 5) (v := .bool p.rcd) HX.out rfl
      have x6 := blk_cell (o := 6) (v := .bool p.abt) HX.out rfl
      have xf := fun j => blk_free (o := j) HX.out
      have hlx := blk_lt HX.out
      have hnp : (l.map normP)[k]? = some (normP p) := by rw [List.getElem?_map, HP.out]; rfl
      have HNP := hid hnp
      have B1 := hid (show k + 1 ≤ maxLen by have := HLN.out; unfold maxLen; omega)
      have B2 := hid (show (k + 1) * 72 ≤ 140737488355328 by have := HLN.out; omega)
      obtain ⟨xs, hown0, hch0⟩ := id HO.out
      rw [HLEN.out] at hown0
      obtain ⟨Ao, co, rfl⟩ := own_form hown0
      have HOW0 := hid hown0
      clear hown0 hch0 hnp
      have hcase : (p.val.k = 1) ∨ (p.val.k ≠ 1 ∧ p.val.k = 3) ∨ (p.val.k ≠ 1 ∧ p.val.k ≠ 3) := by omega
      rcases hcase with hk1 | ⟨hk1, hk3⟩ | ⟨hk1, hk3⟩
      · have t1 : (p.val.k == 1) = true := by simp [hk1]
        have t2 : (p.val.k != 1) = false := by simp [hk1]
        have hnk : nk p.val.k = p.val.k := by unfold nk; rw [if_pos (.inl hk1)]
        have HNK := hid hnk
        clear hnk hk1
        by_cases hs : 100 < p.val.s.size
        · have i3 : (100 : Int) < (p.val.s.size : Int) := by omega
          have i4 : (100 : Int) ≤ (p.val.s.size : Int) := by omega
          have HNS := hid (show ns p.val.s = p.val.s.extract 0 100 by unfold ns; rw [if_pos hs])
          have HF := hid (show PX wr (W.setCell ⟨wr.heap.size, 3, none⟩ (.string (p.val.s.extract 0 100))) wr.heap.size p.serial p.val.k p.val.n (p.val.s.extract 0 100) A3 p.val.l c3 p.rcd p.abt from (PX.setS HPX.out (Nat.le_refl _) (p.val.s.extract 0 100)))
          have HOW := hid (ownsRow_keep HOW0.out HF.out.2.2)
          have B3 := hid (Nat.le_trans hwr HF.out.2.2.le)
          clear hs
          go_wp2_with (at_builtin; go_must (refine app_lit_at W.heap.size (by simp) elPanic rfl (.tmp 48) (.tmp 50) rfl HOW.out rfl _ _ 1 1 rfl rfl (by intro u hu; simp at hu; rcases hu with rfl | rfl | rfl | rfl | rfl | rfl | rfl <;> rfl) B1.out B2.out B3.out ?_); intro v5 w5 hown5 hg5 hm5 hb5; have HN5 : Hid (OPcs w5 w.heap.size v5 ((l.map normP).take (k + 1))) := hid (rb_snoc HNP.out HLEN.out HO.out HOW.out HF.out hg5 hown5 HNK.out HNS.out (norm_okP HOK.out) hwr); obtain ⟨A5, c5, rfl⟩ := own_form hown5; have HK5 := hid (Below.trans (HKP.out.trans HF.out.2.2) hb5); clear hown5 hg5 hm5 hb5)
          go_roundw
          case rel => exact ⟨k + 1, hlt, by simp, HN5.out, HK5.out⟩
          case measure => simp [intOf]; omega
        · have i3 : ¬ (100 : Int) < (p.val.s.size : Int) := by omega
          have HNS := hid (show ns p.val.s = p.val.s by unfold ns; rw [if_neg hs])
          have HF := hid (show PX wr W wr.heap.size p.serial p.val.k p.val.n p.val.s A3 p.val.l c3 p.rcd p.abt from HPX.out)
          have HOW := hid (ownsRow_keep HOW0.out HF.out.2.2)
          have B3 := hid (Nat.le_trans hwr HF.out.2.2.le)
          clear hs
          go_wp2_with (at_builtin; go_must (refine app_lit_at W.heap.size (by simp) elPanic rfl (.tmp 48) (.tmp 50) rfl HOW.out rfl _ _ 1 1 rfl rfl (by intro u hu; simp at hu; rcases hu with rfl | rfl | rfl | rfl | rfl | rfl | rfl <;> rfl) B1.out B2.out B3.out ?_); intro v5 w5 hown5 hg5 hm5 hb5; have HN5 : Hid (OPcs w5 w.heap.size v5 ((l.map normP).take (k + 1))) := hid (rb_snoc HNP.out HLEN.out HO.out HOW.out HF.out hg5 hown5 HNK.out HNS.out (norm_okP HOK.out) hwr); obtain ⟨A5, c5, rfl⟩ := own_form hown5; have HK5 := hid (Below.trans (HKP.out.trans HF.out.2.2) hb5); clear hown5 hg5 hm5 hb5)
          go_roundw
          case rel => exact ⟨k + 1, hlt, by simp, HN5.out, HK5.out⟩
          case measure => simp [intOf]; omega
      · have t1 : (p.val.k == 1) = false := by simp [hk1]
        have t2 : (p.val.k != 1) = true := by simp [hk1]
        have t3 : (p.val.k == 3) = true := by simp [hk3]
        have t4 : (p.val.k != 3) = false := by simp [hk3]
        have hnk : nk p.val.k = p.val.k := by unfold nk; rw [if_pos (.inr hk3)]
        have HNK := hid hnk
        clear hnk hk1 hk3
        by_cases hs : 100 < p.val.s.size
        · have i3 : (100 : Int) < (p.val.s.size : Int) := by omega
          have i4 : (100 : Int) ≤ (p.val.s.size : Int) := by omega
          have HNS := hid (show ns p.val.s = p.val.s.extract 0 100 by unfold ns; rw [if_pos hs])
          have HF := hid (show PX wr (W.setCell ⟨wr.heap.size, 3, none⟩ (.string (p.val.s.extract 0 100))) wr.heap.size p.serial p.val.k p.val.n (p.val.s.extract 0 100) A3 p.val.l c3 p.rcd p.abt from (PX.setS HPX.out (Nat.le_refl _) (p.val.s.extract 0 100)))
          have HOW := hid (ownsRow_keep HOW0.out HF.out.2.2)
          have B3 := hid (Nat.le_trans hwr HF.out.2.2.le)
          clear hs
          go_wp2_with (at_builtin; go_must (refine app_lit_at W.heap.size (by simp) elPanic rfl (.tmp 48) (.tmp 50) rfl HOW.out rfl _ _ 1 1 rfl rfl (by intro u hu; simp at hu; rcases hu with rfl | rfl | rfl | rfl | rfl | rfl | rfl <;> rfl) B1.out B2.out B3.out ?_); intro v5 w5 hown5 hg5 hm5 hb5; have HN5 : Hid (OPcs w5 w.heap.size v5 ((l.map normP).take (k + 1))) := hid (rb_snoc HNP.out HLEN.out HO.out HOW.out HF.out hg5 hown5 HNK.out HNS.out (norm_okP HOK.out) hwr); obtain ⟨A5, c5, rfl⟩ := own_form hown5; have HK5 := hid (Below.trans (HKP.out.trans HF.out.2.2) hb5); clear hown5 hg5 hm5 hb5)
          go_roundw
          case rel => exact ⟨k + 1, hlt, by simp, HN5.out, HK5.out⟩
          case measure => simp [intOf]; omega
        · have i3 : ¬ (100 : Int) < (p.val.s.size : Int) := by omega
          have HNS := hid (show ns p.val.s = p.val.s by unfold ns; rw [if_neg hs])
          have HF := hid (show PX wr W wr.heap.size p.serial p.val.k p.val.n p.val.s A3 p.val.l c3 p.rcd p.abt from HPX.out)
          have HOW := hid (ownsRow_keep HOW0.out HF.out.2.2)
          have B3 := hid (Nat.le_trans hwr HF.out.2.2.le)
          clear hs
          go_wp2_with (at_builtin; go_must (refine app_lit_at W.heap.size (by simp) elPanic rfl (.tmp 48) (.tmp 50) rfl HOW.out rfl _ _ 1 1 rfl rfl (by intro u hu; simp at hu; rcases hu with rfl | rfl | rfl | rfl | rfl | rfl | rfl <;> rfl) B1.out B2.out B3.out ?_); intro v5 w5 hown5 hg5 hm5 hb5; have HN5 : Hid (OPcs w5 w.heap.size v5 ((l.map normP).take (k + 1))) := hid (rb_snoc HNP.out HLEN.out HO.out HOW.out HF.out hg5 hown5 HNK.out HNS.out (norm_okP HOK.out) hwr); obtain ⟨A5, c5, rfl⟩ := own_form hown5; have HK5 := hid (Below.trans (HKP.out.trans HF.out.2.2) hb5); clear hown5 hg5 hm5 hb5)
          go_roundw
          case rel => exact ⟨k + 1, hlt, by simp, HN5.out, HK5.out⟩
          case measure => simp [intOf]; omega
      · have t1 : (p.val.k == 1) = false := by simp [hk1]
        have t2 : (p.val.k != 1) = true := by simp [hk1]
        have t3 : (p.val.k == 3) = false := by simp [hk3]
        have t4 : (p.val.k != 3) = true := by simp [hk3]
        have hnk : nk p.val.k = 1 := by unfold nk; rw [if_neg (by omega)]
        have HNK := hid hnk
        clear hnk hk1 hk3
        by_cases hs : 100 < p.val.s.size
        · have i3 : (100 : Int) < (p.val.s.size : Int) := by omega
          have i4 : (100 : Int) ≤ (p.val.s.size : Int) := by omega
          have HNS := hid (show ns p.val.s = p.val.s.extract 0 100 by unfold ns; rw [if_pos hs])
          have HF := hid (show PX wr ((W.setCell ⟨wr.heap.size, 1, none⟩ (.int .i64 1)).setCell ⟨wr.heap.size, 3, none⟩ (.string (p.val.s.extract 0 100))) wr.heap.size p.serial 1 p.val.n (p.val.s.extract 0 100) A3 p.val.l c3 p.rcd p.abt from (PX.setS (PX.setK HPX.out (Nat.le_refl _) 1) (Nat.le_refl _) (p.val.s.extract 0 100)))
          have HOW := hid (ownsRow_keep HOW0.out HF.out.2.2)
          have B3 := hid (Nat.le_trans hwr HF.out.2.2.le)
          clear hs
          go_wp2_with (at_builtin; go_must (refine app_lit_at W.heap.size (by simp) elPanic rfl (.tmp 48) (.tmp 50) rfl HOW.out rfl _ _ 1 1 rfl rfl (by intro u hu; simp at hu; rcases hu with rfl | rfl | rfl | rfl | rfl | rfl | rfl <;> rfl) B1.out B2.out B3.out ?_); intro v5 w5 hown5 hg5 hm5 hb5; have HN5 : Hid (OPcs w5 w.heap.size v5 ((l.map normP).take (k + 1))) := hid (rb_snoc HNP.out HLEN.out HO.out HOW.out HF.out hg5 hown5 HNK.out HNS.out (norm_okP HOK.out) hwr); obtain ⟨A5, c5, rfl⟩ := own_form hown5; have HK5 := hid (Below.trans (HKP.out.trans HF.out.2.2) hb5); clear hown5 hg5 hm5 hb5)
          go_roundw
          case rel => exact ⟨k + 1, hlt, by simp, HN5.out, HK5.out⟩
          case measure => simp [intOf]; omega
        · have i3 : ¬ (100 : Int) < (p.val.s.size : Int) := by omega
          have HNS := hid (show ns p.val.s = p.val.s by unfold ns; rw [if_neg hs])
          have HF := hid (show PX wr (W.setCell ⟨wr.heap.size, 1, none⟩ (.int .i64 1)) wr.heap.size p.serial 1 p.val.n p.val.s A3 p.val.l c3 p.rcd p.abt from (PX.setK HPX.out (Nat.le_refl _) 1))
          have HOW := hid (ownsRow_keep HOW0.out HF.out.2.2)
          have B3 := hid (Nat.le_trans hwr HF.out.2.2.le)
          clear hs
          go_wp2_with (at_builtin; go_must (refine app_lit_at W.heap.size (by simp) elPanic rfl (.tmp 48) (.tmp 50) rfl HOW.out rfl _ _ 1 1 rfl rfl (by intro u hu; simp at hu; rcases hu with rfl | rfl | rfl | rfl | rfl | rfl | rfl <;> rfl) B1.out B2.out B3.out ?_); intro v5 w5 hown5 hg5 hm5 hb5; have HN5 : Hid (OPcs w5 w.heap.size v5 ((l.map normP).take (k + 1))) := hid (rb_snoc HNP.out HLEN.out HO.out HOW.out HF.out hg5 hown5 HNK.out HNS.out (norm_okP HOK.out) hwr); obtain ⟨A5, c5, rfl⟩ := own_form hown5; have HK5 := hid (Below.trans (HKP.out.trans HF.out.2.2) hb5); clear hown5 hg5 hm5 hb5)
          go_roundw
          case rel => exact ⟨k + 1, hlt, by simp, HN5.out, HK5.out⟩
          case measure => simp [intOf]; omega
    · obtain rfl : k = l.length := by omega
      have i1 : ¬ (l.length : Int) < (l.length : Int) := by omega
      rw [show (l.map normP).take l.length = l.map normP from List.take_of_length_le (by simp)] at ho
      have HNL := hid (show (l.map normP).length = l.length by simp)
      generalize l.map normP = N at ho HNR HCL HNL
      have HM := hid ho
      obtain ⟨xs, hown, hch⟩ := id ho
      obtain ⟨Ao, co, rfl⟩ := own_form hown
      have HNB := hid (show N.length ≤ 1048576 by rw [HNL.out]; exact HLN.out)
      clear ho hown hch HO hlt hk
      have HCR := hid (crash_any wr _ N HM.out.rd (by have := HCL.out; omega) (by have := HNB.out; omega))
      have HRR := hid (fun w => rread_any N HNR.out HNB.out (by have := HCL.out; omega) w)
      have HBC := hid (back_crash N HNR.out)
      obtain ⟨T, hT⟩ : ∃ T : ByteArray, (⟨(crashM N).toArray⟩ : ByteArray) = T := ⟨_, rfl⟩
      have HT := hid hT
      rw [hT] at HCR HRR
      clear hT
      go_upto_region 13 with (go_at_call 15; go_must (refine HCR.out.mono ?_); rintro e w3 ⟨rfl, hk3⟩; have HK3 := hid (HKP.out.trans hk3); have HM3 := hid (HM.out.kp hk3); clear hk3)
      go_upto_region 14 with (go_at_call 16; go_must (refine (HRR.out _).mono ?_); rintro e w4 ⟨⟨v4, rfl, ho4⟩, hk4⟩; have HB4 := hid ho4; obtain ⟨ys, hy, _⟩ := ho4; rw [back_len] at hy; obtain ⟨A4, c4, rfl⟩ := own_form hy; have HK4 := hid (HK3.out.trans hk4); have HM4 := hid (HM3.out.kp hk4); clear hk4 hy)
      have t3 : ((⟨#[112, 97, 110, 105, 99, 58, 32, 51, 32, 91, 114, 101, 99, 111, 118, 101, 114, 101, 100, 93, 10]⟩ : ByteArray).toList == [112, 97, 110, 105, 99, 58, 32, 51, 32, 91, 114, 101, 99, 111, 118, 101, 114, 101, 100, 93, 10]) = true := by rw [ByteArray.toList_eq]; rfl
      go_upto_region 15 with (go_at_call 15; go_must (refine (crash3r_any w4).mono ?_); rintro e w5 ⟨rfl, hk5⟩; have HK5 := hid (HK4.out.trans hk5); have HM5 := hid (HM4.out.kp hk5); have HB5 := hid (HB4.out.kp hk5); clear hk5)
      have HCS := hid (crash_any w5 _ (backL N) HB5.out.rd (by rw [HBC.out]; have := HCL.out; omega) (by rw [back_len]; have := HNB.out; omega))
      rw [HBC.out, HT.out] at HCS
      have tT : (T.toList == T.toList) = true := by simp
      go_upto_region 17 with (go_at_call 15; go_must (refine HCS.out.mono ?_); rintro e w6 ⟨rfl, hk6⟩; have HK6 := hid (HK5.out.trans hk6); have HM6 := hid (HM5.out.kp hk6); have HB6 := hid (HB5.out.kp hk6); clear hk6)
      go_wp2
      go_loopw [10] (fun i wr => ∃ k : Nat, k ≤ N.length ∧ i = .int .i64 k ∧ Kp w6 wr) (fun i _ => N.length - (intOf i).toNat)
      case atStart => exact ⟨0, by omega, rfl, Kp.refl _⟩
      case round =>
        obtain ⟨k, hk, rfl, hkp⟩ := hrel
        have HKP := hid hkp
        by_cases hlt : k < N.length
        · have i1 : (k : Int) < (N.length : Int) := by omega
          have k1 : IntKind.i64.wrap ((k : Int) + 1) = (k : Int) + 1 := by have := HNB.out; rw [IntKind.wrap_i64]; omega
          obtain ⟨p, hp⟩ : ∃ p, N[k]? = some p := ⟨_, List.getElem?_eq_getElem hlt⟩
          obtain ⟨qb, qo, e7, hqb, _, _, q1, _, _, _, q5, _⟩ := at_panic (HM6.out.kp hkp).rd hp
          subst e7
          obtain ⟨pb, po, e8, hpb, _, _, p1, _, _, _, p5, _⟩ := at_panic (HB6.out.kp hkp).rd (back_at hp)
          subst e8
          change wr.cell? _ = some (.int .i64 (backV p.val).k) at p1
          rw [back_kind (HNR.out p (List.mem_of_getElem? hp))] at p1
          clear hp hkp
          go_upto_region 20 with fail
          refine rep20 pb po qb qo N.length c4 co k p.val.k p.rcd hpb hqb p1 p5 q1 q5 i1 (fun u hg => ?_)
          have HKU := hid (HKP.out.trans hg)
          clear hg
          go_wp2
          go_roundw
          case rel => exact ⟨k + 1, hlt, by simp, HKU.out⟩
          case measure => simp [intOf]; omega
        · obtain rfl : k = N.length := by omega
          have i1 : ¬ (N.length : Int) < (N.length : Int) := by omega
          clear hkp
          go_wp2
          go_ret
          exact ⟨rfl, HK6.out.trans HKP.out⟩
/-! ### The row's step (the guide's frame, written by program) -/
set_option maxRecDepth 100000 in
theorem lifted (os : Os) (started : os.Started) (H : Type) (enc : TypeId × Value → H) (F : Stop.Interp) :
    ReturnsInHanded {} Try.checked os 4 .any ((Rows.OpenSpec.upto Rows.reportBackSpec).pre6 enc Try.prog Try.f4 Rows.reportBackUptoRow.domain false) (((Rows.OpenSpec.upto Rows.reportBackSpec).at F).post enc Try.prog Try.f4 false true false false) := by
  refine returnsInHanded_of_cond_sized (C := Try.checked) (s := Rows.OpenSpec.upto Rows.reportBackSpec) (k := Rows.uptoSmall) rfl own started (by kernel_rfl) Try.func4
    (OpenSpec.witness (enc := enc) (C := Try.checked) (s := Rows.OpenSpec.upto Rows.reportBackSpec) (k := Rows.uptoSmall) rfl false ⟨#[], #[.slice none 0 0], []⟩ 8 (by kernel_rfl) (by kernel_rfl) (by kernel_rfl)
      (x := ([.nil], [], [])) (by kernel_rfl) rfl (by kernel_rfl)) ?_
  intro W base args ds gs before hval0 hW _ hk0 hsz0 _
  have hsz : (DataW.weightsEach Try.prog (Try.f4.params.toList ++ (Rows.OpenSpec.upto Rows.reportBackSpec).bare.plain.varTypes Try.prog) (ds ++ gs)).all (· ≤ reachBytes) = true := hsz0
  clear hsz0
  have hval : ∀ (j : Nat) t v, Try.f4.params[j]? = some t → args[j]? = some v → Value.okWide Try.prog W .any base t v := hval0
  have hW' := hW
  obtain ⟨p, q, hA0, hV, rfl, hfz, hnd⟩ := hW
  have hA : DataW.TrodAll enc Try.prog W 0 (fun _ => true) true Try.f4.params.toList args.toList ds p := hA0
  rw [Try.params4] at hA hval hsz
  obtain ⟨v0, vs0, d0, ds0, p0, q0, hargs, rfl, rfl, h0, r0⟩ := trodAll_cons hA
  obtain ⟨rfl, rfl, rfl⟩ := trodAll_nil r0
  obtain rfl : args = #[v0] := by cases args; simp_all
  obtain ⟨rfl, rfl⟩ := trodVars_none hV
  have hbk : Rows.uptoBulkAll [d0] ≤ 1048576 := of_decide_eq_true hk0
  simp only [Rows.uptoBulkAll] at hbk
  have hb0 : Rows.uptoBulk d0 ≤ 1048576 := by omega
  clear hk0 hbk
  have k0 := h0
  have lt0 : ∀ x ∈ p0, x.block < W.heap.size := by obtain ⟨m, hm⟩ := k0; exact DataW.trod_lt m _ _ _ hm
  have hz0 : ∀ n ∈ DataW.weights Try.prog 34 d0, n ≤ reachBytes := fun n hn => by
    have := List.all_eq_true.1 hsz _ (DataW.weights_mem_each (j := 0) rfl rfl n hn)
    simpa using this
  obtain ⟨a0, w0⟩ := open_panicsU (hval 0 34 v0 rfl rfl) h0 hz0 hb0
  clear hA0 hval0
  simp only [List.append_nil] at hW'
  refine (walk v0 a0 W w0).mono fun e W' ⟨he, bel⟩ => ?_
  subst he
  exact ⟨_, rfl, _, _, _, [], _, [], hW', trodAll_mk1 (shut_bool Try.underlying4 _), (trodAll_cons_mk (Below.trod laidOut (by kernel_rfl) (of_decide_eq_true (by kernel_rfl)) k0 bel lt0) trodAll_mk0), rfl, Below.frame bel _, fun h => by cases h⟩

theorem over : Rows.reportBackUptoRow.holds Try.pinned (Rows.OpenSpec.upto Rows.reportBackSpec) :=
  OpenClaim.holds_of_cond 4 Try.f4 rfl rfl rfl rfl rfl rfl rfl ⟨rfl, rfl, rfl, rfl, rfl⟩ rfl rfl rfl rfl rfl (by kernel_rfl) Try.func4 (by kernel_rfl)
    (of_decide_eq_true (by kernel_rfl)) (by unfold Func.isWrapper; rw [if_neg (of_decide_eq_false (by kernel_rfl))]; exact ⟨rfl, rfl⟩)
    (fun os started H enc _ F => lifted os started H enc F)

/-- THE STATEMENT. -/
theorem proved : Rows.ReportBackUptoSaid := over
#print axioms proved

end Go.Proofs.Ytiicdknmoakocaa.reportBack
