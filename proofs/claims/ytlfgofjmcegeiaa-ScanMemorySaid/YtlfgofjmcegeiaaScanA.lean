/-
  The laws' alike: the same kinds and texts. Condition: at most 2001 tokens.
-/
import Derived.Test.YtlfgofjmcegeiaaScan3
import Derived.Test.YtlfgofjmcegeiaaScanS
namespace Go.Proofs.Ytlfgofjmcegeiaa
open Go.RowKit
set_option linter.unusedVariables false
set_option linter.unusedSimpArgs false

set_option maxRecDepth 20000 in
set_option maxHeartbeats 4000000 in
theorem al6 {W : World} {Q : Exit → Act → World → Prop} {s2 s3 s4 s5 s6 s8 s9 s10 s11 s12 s13 s14 s15 s16 s17 s18 s19 s20 s21 s22 s23 s24 s25 s26 s27 s28 s29 s30 s31 s32 s33 s34 s35 s36 s37 s38 s39 s40 s41 s42 s43 s44 s45 s46 s47 s48 s49 s50 s51 s52 s53 s54 s55 s56 s57 s58 s59 s60 s61 s62 s63 : Value} (b1 o1 n1 c1 b2 o2 n2 c2 k : Nat) (kd : Int) (s : ByteArray) (hb1 : b1 < W.heap.size) (hb2 : b2 < W.heap.size) (K1 : W.cell? ⟨b1, o1 + k * 4, none⟩ = some (.int .i64 kd)) (T1 : W.cell? ⟨b1, o1 + k * 4 + 1, none⟩ = some (.string s)) (K2 : W.cell? ⟨b2, o2 + k * 4, none⟩ = some (.int .i64 kd)) (T2 : W.cell? ⟨b2, o2 + k * 4 + 1, none⟩ = some (.string s)) (i1 : (k : Int) < (n1 : Int)) (i2 : (k : Int) < (n2 : Int)) (q1 : (kd != kd) = false) (q2 : (s.toList != s.toList) = false)
    (hE : ∀ u, Kp W u → Q .normal { tmps := #[.slice (some ⟨b1, o1, none⟩) n1 c1, .slice (some ⟨b2, o2, none⟩) n2 c2, s2, s3, s4, s5, s6, .int .i64 (k : Int), s8, s9, s10, s11, s12, s13, s14, s15, s16, s17, s18, s19, s20, s21, s22, s23, s24, s25, s26, s27, s28, s29, s30, s31, s32, s33, s34, s35, s36, s37, s38, s39, .slice (some ⟨b1, o1, none⟩) n1 c1, .int .i64 (k : Int), .pointer (some ⟨b1, o1 + k * 4, none⟩), .pointer (some ⟨b1, o1 + k * 4, none⟩), .int .i64 kd, .slice (some ⟨b2, o2, none⟩) n2 c2, .int .i64 (k : Int), .pointer (some ⟨b2, o2 + k * 4, none⟩), .pointer (some ⟨b2, o2 + k * 4, none⟩), .int .i64 kd, .bool false, .bool false, .slice (some ⟨b1, o1, none⟩) n1 c1, .int .i64 (k : Int), .pointer (some ⟨b1, o1 + k * 4, none⟩), .pointer (some ⟨b1, o1 + k * 4 + 1, none⟩), .string s, .slice (some ⟨b2, o2, none⟩) n2 c2, .int .i64 (k : Int), .pointer (some ⟨b2, o2 + k * 4, none⟩), .pointer (some ⟨b2, o2 + k * 4 + 1, none⟩), .string s, .bool false, .bool false], defers := [] } u) :
    (Code.region 6 (regArr Try.f20 6) true).wp Try.prog Q { tmps := #[.slice (some ⟨b1, o1, none⟩) n1 c1, .slice (some ⟨b2, o2, none⟩) n2 c2, s2, s3, s4, s5, s6, .int .i64 (k : Int), s8, s9, s10, s11, s12, s13, s14, s15, s16, s17, s18, s19, s20, s21, s22, s23, s24, s25, s26, s27, s28, s29, s30, s31, s32, s33, s34, s35, s36, s37, s38, s39, s40, s41, s42, s43, s44, s45, s46, s47, s48, s49, s50, s51, s52, s53, s54, s55, s56, s57, s58, s59, s60, s61, s62, s63], defers := [] } W := by
  simp only [regArr, Try.f20, Option.map_some, Option.getD_some, regOf, if_true, if_false, List.append_nil, List.nil_append, List.toList_toArray, Nat.reduceEqDiff, reduceIte]
  refine wp_region_kp [[], [], [0, 1], [2], [3], [], [], [5, 6], [7], [8], [4, 9], [10], [11], [11], [11, 12, 13], [11, 14], [11, 15], [11], [11], [11, 17, 18], [11, 19], [11, 20], [11, 16, 21], [11, 22]] (fun u => Kp W u)
    [fun (y : Value) (u : World) => y = (.slice (some ⟨b1, o1, none⟩) n1 c1 : Value),
     fun (y : Value) (u : World) => y = (.int .i64 (k : Int) : Value),
     fun (y : Value) (u : World) => y = (.pointer (some ⟨b1, o1 + k * 4, none⟩) : Value),
     fun (y : Value) (u : World) => y = (.pointer (some ⟨b1, o1 + k * 4, none⟩) : Value),
     fun (y : Value) (u : World) => y = (.int .i64 kd : Value),
     fun (y : Value) (u : World) => y = (.slice (some ⟨b2, o2, none⟩) n2 c2 : Value),
     fun (y : Value) (u : World) => y = (.int .i64 (k : Int) : Value),
     fun (y : Value) (u : World) => y = (.pointer (some ⟨b2, o2 + k * 4, none⟩) : Value),
     fun (y : Value) (u : World) => y = (.pointer (some ⟨b2, o2 + k * 4, none⟩) : Value),
     fun (y : Value) (u : World) => y = (.int .i64 kd : Value),
     fun (y : Value) (u : World) => y = (.bool false : Value),
     fun (y : Value) (u : World) => y = (.bool false : Value),
     fun (y : Value) (u : World) => y = (.slice (some ⟨b1, o1, none⟩) n1 c1 : Value),
     fun (y : Value) (u : World) => y = (.int .i64 (k : Int) : Value),
     fun (y : Value) (u : World) => y = (.pointer (some ⟨b1, o1 + k * 4, none⟩) : Value),
     fun (y : Value) (u : World) => y = (.pointer (some ⟨b1, o1 + k * 4 + 1, none⟩) : Value),
     fun (y : Value) (u : World) => y = (.string s : Value),
     fun (y : Value) (u : World) => y = (.slice (some ⟨b2, o2, none⟩) n2 c2 : Value),
     fun (y : Value) (u : World) => y = (.int .i64 (k : Int) : Value),
     fun (y : Value) (u : World) => y = (.pointer (some ⟨b2, o2 + k * 4, none⟩) : Value),
     fun (y : Value) (u : World) => y = (.pointer (some ⟨b2, o2 + k * 4 + 1, none⟩) : Value),
     fun (y : Value) (u : World) => y = (.string s : Value),
     fun (y : Value) (u : World) => y = (.bool false : Value),
     fun (y : Value) (u : World) => y = (.bool false : Value)]
    (by kernel_rfl) (by kernel_rfl) (by kernel_rfl) (by kernel_rfl) ((Kp.refl _).drew) (fun _ _ hk h => h.trans hk) ⟨fun _ _ _ _ h => h, fun _ _ _ _ h => h, fun _ _ _ _ h => h, fun _ _ _ _ h => h, fun _ _ _ _ h => h, fun _ _ _ _ h => h, fun _ _ _ _ h => h, fun _ _ _ _ h => h, fun _ _ _ _ h => h, fun _ _ _ _ h => h, fun _ _ _ _ h => h, fun _ _ _ _ h => h, fun _ _ _ _ h => h, fun _ _ _ _ h => h, fun _ _ _ _ h => h, fun _ _ _ _ h => h, fun _ _ _ _ h => h, fun _ _ _ _ h => h, fun _ _ _ _ h => h, fun _ _ _ _ h => h, fun _ _ _ _ h => h, fun _ _ _ _ h => h, fun _ _ _ _ h => h, fun _ _ _ _ h => h, trivial⟩ ⟨?sb0, ?sb1, ?sb2, ?sb3, ?sb4, ?sb5, ?sb6, ?sb7, ?sb8, ?sb9, ?sb10, ?sb11, ?sb12, ?sb13, ?sb14, ?sb15, ?sb16, ?sb17, ?sb18, ?sb19, ?sb20, ?sb21, ?sb22, ?sb23, trivial⟩ ?hEb
  case sb0 =>
    refine OpStepK.by_ ?_
    intro a x u ht hs hg hd K hK
    clear hd
    refine OpGoal.live (wanted_free (by kernel_rfl)) ?_
    have e0 : a.eval (Operand.tmp 0) = (.slice (some ⟨b1, o1, none⟩) n1 c1 : Value) := (ht 0).trans (by kernel_rfl)
    clear ht hs
    refine BigFrame.wp_move _ rfl ?_
    exact hK.out _ _ (Kp.refl _) e0
  case sb1 =>
    refine OpStepK.by_ ?_
    intro a x u ht hs hg hd K hK
    clear hd
    refine OpGoal.live (wanted_free (by kernel_rfl)) ?_
    have e7 : a.eval (Operand.tmp 7) = (.int .i64 (k : Int) : Value) := (ht 7).trans (by kernel_rfl)
    clear ht hs
    refine BigFrame.wp_move _ rfl ?_
    exact hK.out _ _ (Kp.refl _) e7
  case sb2 =>
    refine OpStepK.by_ ?_
    intro a x u ht hs hg hd K hK
    have d0 : (x 0) = .slice (some ⟨b1, o1, none⟩) n1 c1 := And.left hd
    have d1 : (x 1) = .int .i64 (k : Int) := And.left (And.right hd)
    clear hd
    refine OpGoal.live (wanted_free (by kernel_rfl)) ?_
    have e40 : a.tmps[40]? = some (.slice (some ⟨b1, o1, none⟩) n1 c1 : Value) := (hs 40).trans (Eq.trans (b := some (x 0)) (by kernel_rfl) (by rw [d0]))
    have e41 : a.tmps[41]? = some (.int .i64 (k : Int) : Value) := (hs 41).trans (Eq.trans (b := some (x 1)) (by kernel_rfl) (by rw [d1]))
    clear d0 d1
    clear ht hs
    go_simp
    exact hK.out _ _ (Kp.refl _) rfl
  case sb3 =>
    refine OpStepK.by_ ?_
    intro a x u ht hs hg hd K hK
    have d2 : (x 2) = .pointer (some ⟨b1, o1 + k * 4, none⟩) := And.left hd
    clear hd
    refine OpGoal.live (wanted_free (by kernel_rfl)) ?_
    have e42 : a.tmps[42]? = some (.pointer (some ⟨b1, o1 + k * 4, none⟩) : Value) := (hs 42).trans (Eq.trans (b := some (x 2)) (by kernel_rfl) (by rw [d2]))
    clear d2
    clear ht hs
    go_simp
    exact hK.out _ _ (Kp.refl _) rfl
  case sb4 =>
    refine OpStepK.by_ ?_
    intro a x u ht hs hg hd K hK
    have d3 : (x 3) = .pointer (some ⟨b1, o1 + k * 4, none⟩) := And.left hd
    clear hd
    refine OpGoal.live (wanted_free (by kernel_rfl)) ?_
    have e43 : a.tmps[43]? = some (.pointer (some ⟨b1, o1 + k * 4, none⟩) : Value) := (hs 43).trans (Eq.trans (b := some (x 3)) (by kernel_rfl) (by rw [d3]))
    clear d3
    clear ht hs
    have q0 := cell_kp hg hb1 K1
    go_simp
    exact hK.out _ _ (Kp.refl _) rfl
  case sb5 =>
    refine OpStepK.by_ ?_
    intro a x u ht hs hg hd K hK
    clear hd
    refine OpGoal.live (wanted_free (by kernel_rfl)) ?_
    have e1 : a.eval (Operand.tmp 1) = (.slice (some ⟨b2, o2, none⟩) n2 c2 : Value) := (ht 1).trans (by kernel_rfl)
    clear ht hs
    refine BigFrame.wp_move _ rfl ?_
    exact hK.out _ _ (Kp.refl _) e1
  case sb6 =>
    refine OpStepK.by_ ?_
    intro a x u ht hs hg hd K hK
    clear hd
    refine OpGoal.live (wanted_free (by kernel_rfl)) ?_
    have e7 : a.eval (Operand.tmp 7) = (.int .i64 (k : Int) : Value) := (ht 7).trans (by kernel_rfl)
    clear ht hs
    refine BigFrame.wp_move _ rfl ?_
    exact hK.out _ _ (Kp.refl _) e7
  case sb7 =>
    refine OpStepK.by_ ?_
    intro a x u ht hs hg hd K hK
    have d5 : (x 5) = .slice (some ⟨b2, o2, none⟩) n2 c2 := And.left hd
    have d6 : (x 6) = .int .i64 (k : Int) := And.left (And.right hd)
    clear hd
    refine OpGoal.live (wanted_free (by kernel_rfl)) ?_
    have e45 : a.tmps[45]? = some (.slice (some ⟨b2, o2, none⟩) n2 c2 : Value) := (hs 45).trans (Eq.trans (b := some (x 5)) (by kernel_rfl) (by rw [d5]))
    have e46 : a.tmps[46]? = some (.int .i64 (k : Int) : Value) := (hs 46).trans (Eq.trans (b := some (x 6)) (by kernel_rfl) (by rw [d6]))
    clear d5 d6
    clear ht hs
    go_simp
    exact hK.out _ _ (Kp.refl _) rfl
  case sb8 =>
    refine OpStepK.by_ ?_
    intro a x u ht hs hg hd K hK
    have d7 : (x 7) = .pointer (some ⟨b2, o2 + k * 4, none⟩) := And.left hd
    clear hd
    refine OpGoal.live (wanted_free (by kernel_rfl)) ?_
    have e47 : a.tmps[47]? = some (.pointer (some ⟨b2, o2 + k * 4, none⟩) : Value) := (hs 47).trans (Eq.trans (b := some (x 7)) (by kernel_rfl) (by rw [d7]))
    clear d7
    clear ht hs
    go_simp
    exact hK.out _ _ (Kp.refl _) rfl
  case sb9 =>
    refine OpStepK.by_ ?_
    intro a x u ht hs hg hd K hK
    have d8 : (x 8) = .pointer (some ⟨b2, o2 + k * 4, none⟩) := And.left hd
    clear hd
    refine OpGoal.live (wanted_free (by kernel_rfl)) ?_
    have e48 : a.tmps[48]? = some (.pointer (some ⟨b2, o2 + k * 4, none⟩) : Value) := (hs 48).trans (Eq.trans (b := some (x 8)) (by kernel_rfl) (by rw [d8]))
    clear d8
    clear ht hs
    have q0 := cell_kp hg hb2 K2
    go_simp
    exact hK.out _ _ (Kp.refl _) rfl
  case sb10 =>
    refine OpStepK.by_ ?_
    intro a x u ht hs hg hd K hK
    have d4 : (x 4) = .int .i64 kd := And.left hd
    have d9 : (x 9) = .int .i64 kd := And.left (And.right hd)
    clear hd
    refine OpGoal.live (wanted_free (by kernel_rfl)) ?_
    have e44 : a.tmps[44]? = some (.int .i64 kd : Value) := (hs 44).trans (Eq.trans (b := some (x 4)) (by kernel_rfl) (by rw [d4]))
    have e49 : a.tmps[49]? = some (.int .i64 kd : Value) := (hs 49).trans (Eq.trans (b := some (x 9)) (by kernel_rfl) (by rw [d9]))
    clear d4 d9
    clear ht hs
    go_simp
    exact hK.out _ _ (Kp.refl _) rfl
  case sb11 =>
    refine OpStepK.by_ ?_
    intro a x u ht hs hg hd K hK
    have d10 : (x 10) = .bool false := And.left hd
    clear hd
    refine OpGoal.live (wanted_free (by kernel_rfl)) ?_
    have e50 : a.eval (Operand.tmp 50) = (.bool false : Value) := (ht 50).trans (Eq.trans (b := x 10) (by kernel_rfl) d10)
    clear d10
    clear ht hs
    refine BigFrame.wp_move _ rfl ?_
    exact hK.out _ _ (Kp.refl _) e50
  case sb12 =>
    refine OpStepK.by_ ?_
    intro a x u ht hs hg hd K hK
    have d11 : (x 11) = .bool false := And.left hd
    clear hd
    refine OpGoal.live (wanted_yes (j := 11) (d := 51) (by kernel_rfl) (by kernel_rfl) ((hs 51).trans (Eq.trans (b := some (x 11)) (by kernel_rfl) (by rw [d11])))) ?_
    have e0 : a.eval (Operand.tmp 0) = (.slice (some ⟨b1, o1, none⟩) n1 c1 : Value) := (ht 0).trans (by kernel_rfl)
    clear d11
    clear ht hs
    refine BigFrame.wp_move _ rfl ?_
    exact hK.out _ _ (Kp.refl _) e0
  case sb13 =>
    refine OpStepK.by_ ?_
    intro a x u ht hs hg hd K hK
    have d11 : (x 11) = .bool false := And.left hd
    clear hd
    refine OpGoal.live (wanted_yes (j := 11) (d := 51) (by kernel_rfl) (by kernel_rfl) ((hs 51).trans (Eq.trans (b := some (x 11)) (by kernel_rfl) (by rw [d11])))) ?_
    have e7 : a.eval (Operand.tmp 7) = (.int .i64 (k : Int) : Value) := (ht 7).trans (by kernel_rfl)
    clear d11
    clear ht hs
    refine BigFrame.wp_move _ rfl ?_
    exact hK.out _ _ (Kp.refl _) e7
  case sb14 =>
    refine OpStepK.by_ ?_
    intro a x u ht hs hg hd K hK
    have d11 : (x 11) = .bool false := And.left hd
    have d12 : (x 12) = .slice (some ⟨b1, o1, none⟩) n1 c1 := And.left (And.right hd)
    have d13 : (x 13) = .int .i64 (k : Int) := And.left (And.right (And.right hd))
    clear hd
    refine OpGoal.live (wanted_yes (j := 11) (d := 51) (by kernel_rfl) (by kernel_rfl) ((hs 51).trans (Eq.trans (b := some (x 11)) (by kernel_rfl) (by rw [d11])))) ?_
    have e52 : a.tmps[52]? = some (.slice (some ⟨b1, o1, none⟩) n1 c1 : Value) := (hs 52).trans (Eq.trans (b := some (x 12)) (by kernel_rfl) (by rw [d12]))
    have e53 : a.tmps[53]? = some (.int .i64 (k : Int) : Value) := (hs 53).trans (Eq.trans (b := some (x 13)) (by kernel_rfl) (by rw [d13]))
    clear d11 d12 d13
    clear ht hs
    go_simp
    exact hK.out _ _ (Kp.refl _) rfl
  case sb15 =>
    refine OpStepK.by_ ?_
    intro a x u ht hs hg hd K hK
    have d11 : (x 11) = .bool false := And.left hd
    have d14 : (x 14) = .pointer (some ⟨b1, o1 + k * 4, none⟩) := And.left (And.right hd)
    clear hd
    refine OpGoal.live (wanted_yes (j := 11) (d := 51) (by kernel_rfl) (by kernel_rfl) ((hs 51).trans (Eq.trans (b := some (x 11)) (by kernel_rfl) (by rw [d11])))) ?_
    have e54 : a.tmps[54]? = some (.pointer (some ⟨b1, o1 + k * 4, none⟩) : Value) := (hs 54).trans (Eq.trans (b := some (x 14)) (by kernel_rfl) (by rw [d14]))
    clear d11 d14
    clear ht hs
    go_simp
    exact hK.out _ _ (Kp.refl _) rfl
  case sb16 =>
    refine OpStepK.by_ ?_
    intro a x u ht hs hg hd K hK
    have d11 : (x 11) = .bool false := And.left hd
    have d15 : (x 15) = .pointer (some ⟨b1, o1 + k * 4 + 1, none⟩) := And.left (And.right hd)
    clear hd
    refine OpGoal.live (wanted_yes (j := 11) (d := 51) (by kernel_rfl) (by kernel_rfl) ((hs 51).trans (Eq.trans (b := some (x 11)) (by kernel_rfl) (by rw [d11])))) ?_
    have e55 : a.tmps[55]? = some (.pointer (some ⟨b1, o1 + k * 4 + 1, none⟩) : Value) := (hs 55).trans (Eq.trans (b := some (x 15)) (by kernel_rfl) (by rw [d15]))
    clear d11 d15
    clear ht hs
    have q0 := cell_kp hg hb1 T1
    go_simp
    exact hK.out _ _ (Kp.refl _) rfl
  case sb17 =>
    refine OpStepK.by_ ?_
    intro a x u ht hs hg hd K hK
    have d11 : (x 11) = .bool false := And.left hd
    clear hd
    refine OpGoal.live (wanted_yes (j := 11) (d := 51) (by kernel_rfl) (by kernel_rfl) ((hs 51).trans (Eq.trans (b := some (x 11)) (by kernel_rfl) (by rw [d11])))) ?_
    have e1 : a.eval (Operand.tmp 1) = (.slice (some ⟨b2, o2, none⟩) n2 c2 : Value) := (ht 1).trans (by kernel_rfl)
    clear d11
    clear ht hs
    refine BigFrame.wp_move _ rfl ?_
    exact hK.out _ _ (Kp.refl _) e1
  case sb18 =>
    refine OpStepK.by_ ?_
    intro a x u ht hs hg hd K hK
    have d11 : (x 11) = .bool false := And.left hd
    clear hd
    refine OpGoal.live (wanted_yes (j := 11) (d := 51) (by kernel_rfl) (by kernel_rfl) ((hs 51).trans (Eq.trans (b := some (x 11)) (by kernel_rfl) (by rw [d11])))) ?_
    have e7 : a.eval (Operand.tmp 7) = (.int .i64 (k : Int) : Value) := (ht 7).trans (by kernel_rfl)
    clear d11
    clear ht hs
    refine BigFrame.wp_move _ rfl ?_
    exact hK.out _ _ (Kp.refl _) e7
  case sb19 =>
    refine OpStepK.by_ ?_
    intro a x u ht hs hg hd K hK
    have d11 : (x 11) = .bool false := And.left hd
    have d17 : (x 17) = .slice (some ⟨b2, o2, none⟩) n2 c2 := And.left (And.right hd)
    have d18 : (x 18) = .int .i64 (k : Int) := And.left (And.right (And.right hd))
    clear hd
    refine OpGoal.live (wanted_yes (j := 11) (d := 51) (by kernel_rfl) (by kernel_rfl) ((hs 51).trans (Eq.trans (b := some (x 11)) (by kernel_rfl) (by rw [d11])))) ?_
    have e57 : a.tmps[57]? = some (.slice (some ⟨b2, o2, none⟩) n2 c2 : Value) := (hs 57).trans (Eq.trans (b := some (x 17)) (by kernel_rfl) (by rw [d17]))
    have e58 : a.tmps[58]? = some (.int .i64 (k : Int) : Value) := (hs 58).trans (Eq.trans (b := some (x 18)) (by kernel_rfl) (by rw [d18]))
    clear d11 d17 d18
    clear ht hs
    go_simp
    exact hK.out _ _ (Kp.refl _) rfl
  case sb20 =>
    refine OpStepK.by_ ?_
    intro a x u ht hs hg hd K hK
    have d11 : (x 11) = .bool false := And.left hd
    have d19 : (x 19) = .pointer (some ⟨b2, o2 + k * 4, none⟩) := And.left (And.right hd)
    clear hd
    refine OpGoal.live (wanted_yes (j := 11) (d := 51) (by kernel_rfl) (by kernel_rfl) ((hs 51).trans (Eq.trans (b := some (x 11)) (by kernel_rfl) (by rw [d11])))) ?_
    have e59 : a.tmps[59]? = some (.pointer (some ⟨b2, o2 + k * 4, none⟩) : Value) := (hs 59).trans (Eq.trans (b := some (x 19)) (by kernel_rfl) (by rw [d19]))
    clear d11 d19
    clear ht hs
    go_simp
    exact hK.out _ _ (Kp.refl _) rfl
  case sb21 =>
    refine OpStepK.by_ ?_
    intro a x u ht hs hg hd K hK
    have d11 : (x 11) = .bool false := And.left hd
    have d20 : (x 20) = .pointer (some ⟨b2, o2 + k * 4 + 1, none⟩) := And.left (And.right hd)
    clear hd
    refine OpGoal.live (wanted_yes (j := 11) (d := 51) (by kernel_rfl) (by kernel_rfl) ((hs 51).trans (Eq.trans (b := some (x 11)) (by kernel_rfl) (by rw [d11])))) ?_
    have e60 : a.tmps[60]? = some (.pointer (some ⟨b2, o2 + k * 4 + 1, none⟩) : Value) := (hs 60).trans (Eq.trans (b := some (x 20)) (by kernel_rfl) (by rw [d20]))
    clear d11 d20
    clear ht hs
    have q0 := cell_kp hg hb2 T2
    go_simp
    exact hK.out _ _ (Kp.refl _) rfl
  case sb22 =>
    refine OpStepK.by_ ?_
    intro a x u ht hs hg hd K hK
    have d11 : (x 11) = .bool false := And.left hd
    have d16 : (x 16) = .string s := And.left (And.right hd)
    have d21 : (x 21) = .string s := And.left (And.right (And.right hd))
    clear hd
    refine OpGoal.live (wanted_yes (j := 11) (d := 51) (by kernel_rfl) (by kernel_rfl) ((hs 51).trans (Eq.trans (b := some (x 11)) (by kernel_rfl) (by rw [d11])))) ?_
    have e56 : a.tmps[56]? = some (.string s : Value) := (hs 56).trans (Eq.trans (b := some (x 16)) (by kernel_rfl) (by rw [d16]))
    have e61 : a.tmps[61]? = some (.string s : Value) := (hs 61).trans (Eq.trans (b := some (x 21)) (by kernel_rfl) (by rw [d21]))
    clear d11 d16 d21
    clear ht hs
    go_simp
    exact hK.out _ _ (Kp.refl _) rfl
  case sb23 =>
    refine OpStepK.by_ ?_
    intro a x u ht hs hg hd K hK
    have d11 : (x 11) = .bool false := And.left hd
    have d22 : (x 22) = .bool false := And.left (And.right hd)
    clear hd
    refine OpGoal.live (wanted_free (by kernel_rfl)) ?_
    have e51 : a.tmps[51]? = some (.bool false : Value) := (hs 51).trans (Eq.trans (b := some (x 11)) (by kernel_rfl) (by rw [d11]))
    have e62 : a.tmps[62]? = some (.bool false : Value) := (hs 62).trans (Eq.trans (b := some (x 22)) (by kernel_rfl) (by rw [d22]))
    clear d11 d22
    clear ht hs
    go_simp
    exact hK.out _ _ (Kp.refl _) rfl
  intro x u hg he
  have d0 : (x 0) = .slice (some ⟨b1, o1, none⟩) n1 c1 := And.left he
  have d1 : (x 1) = .int .i64 (k : Int) := And.left (And.right he)
  have d2 : (x 2) = .pointer (some ⟨b1, o1 + k * 4, none⟩) := And.left (And.right (And.right he))
  have d3 : (x 3) = .pointer (some ⟨b1, o1 + k * 4, none⟩) := And.left (And.right (And.right (And.right he)))
  have d4 : (x 4) = .int .i64 kd := And.left (And.right (And.right (And.right (And.right he))))
  have d5 : (x 5) = .slice (some ⟨b2, o2, none⟩) n2 c2 := And.left (And.right (And.right (And.right (And.right (And.right he)))))
  have d6 : (x 6) = .int .i64 (k : Int) := And.left (And.right (And.right (And.right (And.right (And.right (And.right he))))))
  have d7 : (x 7) = .pointer (some ⟨b2, o2 + k * 4, none⟩) := And.left (And.right (And.right (And.right (And.right (And.right (And.right (And.right he)))))))
  have d8 : (x 8) = .pointer (some ⟨b2, o2 + k * 4, none⟩) := And.left (And.right (And.right (And.right (And.right (And.right (And.right (And.right (And.right he))))))))
  have d9 : (x 9) = .int .i64 kd := And.left (And.right (And.right (And.right (And.right (And.right (And.right (And.right (And.right (And.right he)))))))))
  have d10 : (x 10) = .bool false := And.left (And.right (And.right (And.right (And.right (And.right (And.right (And.right (And.right (And.right (And.right he))))))))))
  have d11 : (x 11) = .bool false := And.left (And.right (And.right (And.right (And.right (And.right (And.right (And.right (And.right (And.right (And.right (And.right he)))))))))))
  have d12 : (x 12) = .slice (some ⟨b1, o1, none⟩) n1 c1 := And.left (And.right (And.right (And.right (And.right (And.right (And.right (And.right (And.right (And.right (And.right (And.right (And.right he))))))))))))
  have d13 : (x 13) = .int .i64 (k : Int) := And.left (And.right (And.right (And.right (And.right (And.right (And.right (And.right (And.right (And.right (And.right (And.right (And.right (And.right he)))))))))))))
  have d14 : (x 14) = .pointer (some ⟨b1, o1 + k * 4, none⟩) := And.left (And.right (And.right (And.right (And.right (And.right (And.right (And.right (And.right (And.right (And.right (And.right (And.right (And.right (And.right he))))))))))))))
  have d15 : (x 15) = .pointer (some ⟨b1, o1 + k * 4 + 1, none⟩) := And.left (And.right (And.right (And.right (And.right (And.right (And.right (And.right (And.right (And.right (And.right (And.right (And.right (And.right (And.right (And.right he)))))))))))))))
  have d16 : (x 16) = .string s := And.left (And.right (And.right (And.right (And.right (And.right (And.right (And.right (And.right (And.right (And.right (And.right (And.right (And.right (And.right (And.right (And.right he))))))))))))))))
  have d17 : (x 17) = .slice (some ⟨b2, o2, none⟩) n2 c2 := And.left (And.right (And.right (And.right (And.right (And.right (And.right (And.right (And.right (And.right (And.right (And.right (And.right (And.right (And.right (And.right (And.right (And.right he)))))))))))))))))
  have d18 : (x 18) = .int .i64 (k : Int) := And.left (And.right (And.right (And.right (And.right (And.right (And.right (And.right (And.right (And.right (And.right (And.right (And.right (And.right (And.right (And.right (And.right (And.right (And.right he))))))))))))))))))
  have d19 : (x 19) = .pointer (some ⟨b2, o2 + k * 4, none⟩) := And.left (And.right (And.right (And.right (And.right (And.right (And.right (And.right (And.right (And.right (And.right (And.right (And.right (And.right (And.right (And.right (And.right (And.right (And.right (And.right he)))))))))))))))))))
  have d20 : (x 20) = .pointer (some ⟨b2, o2 + k * 4 + 1, none⟩) := And.left (And.right (And.right (And.right (And.right (And.right (And.right (And.right (And.right (And.right (And.right (And.right (And.right (And.right (And.right (And.right (And.right (And.right (And.right (And.right (And.right he))))))))))))))))))))
  have d21 : (x 21) = .string s := And.left (And.right (And.right (And.right (And.right (And.right (And.right (And.right (And.right (And.right (And.right (And.right (And.right (And.right (And.right (And.right (And.right (And.right (And.right (And.right (And.right (And.right he)))))))))))))))))))))
  have d22 : (x 22) = .bool false := And.left (And.right (And.right (And.right (And.right (And.right (And.right (And.right (And.right (And.right (And.right (And.right (And.right (And.right (And.right (And.right (And.right (And.right (And.right (And.right (And.right (And.right (And.right he))))))))))))))))))))))
  have d23 : (x 23) = .bool false := And.left (And.right (And.right (And.right (And.right (And.right (And.right (And.right (And.right (And.right (And.right (And.right (And.right (And.right (And.right (And.right (And.right (And.right (And.right (And.right (And.right (And.right (And.right (And.right he)))))))))))))))))))))))
  clear he
  refine ⟨?_⟩
  simp only [putsFrom, Act.put, List.setIfInBounds_toArray, List.set_cons_zero, List.set_cons_succ, Nat.reduceAdd, d0, d1, d2, d3, d4, d5, d6, d7, d8, d9, d10, d11, d12, d13, d14, d15, d16, d17, d18, d19, d20, d21, d22, d23]
  clear d0 d1 d2 d3 d4 d5 d6 d7 d8 d9 d10 d11 d12 d13 d14 d15 d16 d17 d18 d19 d20 d21 d22 d23
  exact hE _ hg
/-- The lists are alike; a semicolon more may stand at the end of the second. -/
def Like (l1 l2 : List TokenM) (m : Bool) : Prop := l1.map kt = l2.map kt ∨ (m = true ∧ ∃ x : Int × ByteArray, x.1 = 6 ∧ l2.map kt = l1.map kt ++ [x])
theorem Like.get {l1 l2 : List TokenM} {m : Bool} (h : Like l1 l2 m) {k : Nat} {t1 : TokenM} (h1 : l1[k]? = some t1) : ∃ t2, l2[k]? = some t2 ∧ t2.kind = t1.kind ∧ t2.text = t1.text := by
  have hk : (l1.map kt)[k]? = some (kt t1) := by rw [List.getElem?_map, h1]; rfl
  have hk2 : (l2.map kt)[k]? = some (kt t1) := by
    rcases h with h | ⟨_, x, _, h⟩
    · rw [← h]; exact hk
    · rw [h, List.getElem?_append_left (List.getElem?_eq_some_iff.1 hk).1]; exact hk
  rw [List.getElem?_map] at hk2
  cases h2 : l2[k]? with
  | none => rw [h2] at hk2; cases hk2
  | some t2 =>
    rw [h2] at hk2
    injection hk2 with hk2
    injection hk2 with e1 e2
    exact ⟨t2, rfl, e1, e2⟩
theorem Like.len {l1 l2 : List TokenM} {m : Bool} (h : Like l1 l2 m) : l2.length = l1.length ∨ (m = true ∧ l2.length = l1.length + 1 ∧ ∃ t, l2[l1.length]? = some t ∧ t.kind = 6) := by
  rcases h with h | ⟨hm, x, hx, h⟩
  · left; have := congrArg List.length h; simpa using this.symm
  · right
    have hl := congrArg List.length h
    simp at hl
    refine ⟨hm, hl, ?_⟩
    have hk : (l2.map kt)[l1.length]? = some x := by rw [h, List.getElem?_append_right (by simp)]; simp
    rw [List.getElem?_map] at hk
    cases h2 : l2[l1.length]? with
    | none => rw [h2] at hk; cases hk
    | some t =>
      rw [h2] at hk
      injection hk with hk
      exact ⟨t, rfl, by rw [← hx, ← hk]; rfl⟩
theorem al_round {W u : World} {k k1 n : Nat} (hk : k + 1 = k1) (hl : k < n) (hw : Kp W u) : (∃ k' : Nat, k' ≤ n ∧ Value.int .i64 (k1 : Int) = .int .i64 (k' : Int) ∧ Kp W u) ∧ n - (intOf (.int .i64 (k1 : Int))).toNat < n - (intOf (.int .i64 (k : Int))).toNat := by
  subst hk
  exact ⟨⟨k + 1, hl, rfl, hw⟩, by simp only [intOf, Int.toNat_natCast]; omega⟩
set_option maxRecDepth 20000 in
set_option maxHeartbeats 8000000 in
theorem alike_yes (w : World) (v1 v2 : Value) (l1 l2 : List TokenM) (m : Bool) (h1 : RdL CeToken 4 w v1 l1) (h2 : RdL CeToken 4 w v2 l2) (h : Like l1 l2 m) (hz : l1.length ≤ 3000) : Calls Try.prog 20 #[v1, v2, .bool m] w fun e w' => e = .returned (.bool true) ∧ Kp w w' := by
  have H1 := hid h1; have H2 := hid h2; have HL := hid h; have HZ := hid hz
  obtain ⟨A1, c1, rfl, _⟩ := h1.form
  obtain ⟨A2, c2, rfl, _⟩ := h2.form
  have hlen := h.len
  clear h1 h2 h hz
  have tail : ∀ (Wx : World), Kp w Wx → True := fun _ _ => trivial
  rcases hlen with hlen | ⟨rfl, hlen, t, ht, htk⟩
  · rw [hlen] at H2 ⊢
    have t0 : ((l1.length : Int) != (l1.length : Int)) = false := by simp
    clear hlen
    go_enter Try.func20, Try.ntmps20
    go_wp2_with fail
    go_loopw [7] (fun i wr => ∃ k : Nat, k ≤ l1.length ∧ i = .int .i64 (k : Int) ∧ Kp w wr) (fun i _ => l1.length - (intOf i).toNat)
    case atStart => exact ⟨0, Nat.zero_le _, rfl, Kp.refl _⟩
    case round =>
      obtain ⟨k, hk, rfl, hkp⟩ := hrel
      have HKP := hid hkp
      by_cases hlt : k < l1.length
      · have i1 : (k : Int) < (l1.length : Int) := by omega
        obtain ⟨t1, ht1⟩ : ∃ t1, l1[k]? = some t1 := ⟨_, List.getElem?_eq_getElem hlt⟩
        obtain ⟨t2, ht2, e1, e2⟩ := HL.out.get ht1
        obtain ⟨b1, o1, rfl, hb1, x0, x1, x2, x3, _⟩ := at_token (H1.out.kp CeToken.kp hkp) ht1
        obtain ⟨b2, o2, rfl, hb2, y0, y1, y2, y3, _⟩ := at_token (H2.out.kp CeToken.kp hkp) ht2
        rw [e1] at y0
        rw [e2] at y1
        obtain ⟨k1, hk1⟩ : ∃ k1, k + 1 = k1 := ⟨_, rfl⟩
        have HK1 := hid hk1
        have k0 : IntKind.i64.wrap ((k : Int) + 1) = (k1 : Int) := by rw [IntKind.wrap_i64]; have := HZ.out; omega
        clear hk hkp ht1 ht2 e1 e2 x2 x3 y2 y3 hk1
        go_upto_region 6 with fail
        refine al6 b1 o1 l1.length c1 b2 o2 l1.length c2 k t1.kind t1.text hb1 hb2 x0 x1 y0 y1 i1 i1 (by simp) (by simp) (fun u hg => ?_)
        have HG := hid hg
        clear hg x0 x1 y0 y1
        go_wp2
        exact al_round HK1.out hlt (HKP.out.trans HG.out)
      · have i1 : ¬ (k : Int) < (l1.length : Int) := by omega
        clear hk hkp
        go_wp2
        go_ret
        exact ⟨rfl, HKP.out⟩
  · obtain ⟨n2, hn2⟩ : ∃ n2, l2.length = n2 := ⟨_, rfl⟩
    rw [hn2] at hlen ⊢
    have HN2 := hid hn2
    obtain ⟨bq, oq, rfl, hbq, z0, z1, z2, z3, _⟩ := at_token H2.out ht
    rw [htk] at z0
    have t0 : ((n2 : Int) != (l1.length : Int)) = true := by rw [bne_iff_ne]; omega
    have t1 : IntKind.i64.wrap ((l1.length : Int) + 1) = (n2 : Int) := by rw [IntKind.wrap_i64]; have := HZ.out; omega
    have t2 : ((n2 : Int) == (n2 : Int)) = true := by simp
    have t3 : (l1.length : Int) < (n2 : Int) := by omega
    clear hlen ht htk hn2 z1 z2 z3
    go_enter Try.func20, Try.ntmps20
    go_wp2_with fail
    clear z0
    go_loopw [7] (fun i wr => ∃ k : Nat, k ≤ l1.length ∧ i = .int .i64 (k : Int) ∧ Kp w wr) (fun i _ => l1.length - (intOf i).toNat)
    case atStart => exact ⟨0, Nat.zero_le _, rfl, Kp.refl _⟩
    case round =>
      obtain ⟨k, hk, rfl, hkp⟩ := hrel
      have HKP := hid hkp
      by_cases hlt : k < l1.length
      · have i1 : (k : Int) < (l1.length : Int) := by omega
        have i2 : (k : Int) < (n2 : Int) := by omega
        obtain ⟨t1', ht1⟩ : ∃ t1, l1[k]? = some t1 := ⟨_, List.getElem?_eq_getElem hlt⟩
        obtain ⟨t2', ht2, e1, e2⟩ := HL.out.get ht1
        obtain ⟨b1, o1, rfl, hb1, x0, x1, x2, x3, _⟩ := at_token (H1.out.kp CeToken.kp hkp) ht1
        obtain ⟨b2, o2, eq2, hb2, y0, y1, y2, y3, _⟩ := at_token (H2.out.kp CeToken.kp hkp) ht2
        cases eq2
        rw [e1] at y0
        rw [e2] at y1
        obtain ⟨k1, hk1⟩ : ∃ k1, k + 1 = k1 := ⟨_, rfl⟩
        have HK1 := hid hk1
        have k0 : IntKind.i64.wrap ((k : Int) + 1) = (k1 : Int) := by rw [IntKind.wrap_i64]; have := HZ.out; omega
        clear hk hkp ht1 ht2 e1 e2 x2 x3 y2 y3 hk1
        go_upto_region 6 with fail
        refine al6 b1 o1 l1.length c1 bq oq n2 c2 k t1'.kind t1'.text hb1 hb2 x0 x1 y0 y1 i1 i2 (by simp) (by simp) (fun u hg => ?_)
        have HG := hid hg
        clear hg x0 x1 y0 y1
        go_wp2
        exact al_round HK1.out hlt (HKP.out.trans HG.out)
      · have i1 : ¬ (k : Int) < (l1.length : Int) := by omega
        clear hk hkp
        go_wp2
        go_ret
        exact ⟨rfl, HKP.out⟩
end Go.Proofs.Ytlfgofjmcegeiaa
