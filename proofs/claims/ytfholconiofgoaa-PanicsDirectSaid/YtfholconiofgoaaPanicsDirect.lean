/-
  The law PanicsDirect answers true for all lists of events. No condition.
-/
import Derived.SizedLaws
import Derived.Deep.CondSized
import Derived.Test.YtfholconiofgoaaRows
import Derived.Test.YtfholconiofgoaaPanL
import Derived.Test.YtfholconiofgoaaPanN
import Derived.Test.YtfholconiofgoaaPanD
import Derived.Deep.DeepCutAuto
namespace Go.Proofs.Ytfholconiofgoaa.panicsDirect
open Go.ChangeShapes Go.WideShapes Go.ChangeAt Go.RowKit
open Go.ChangeMaps (open_string shut_string)
set_option linter.unusedVariables false

theorem own : ownKnob Try.prog.godebug = none := by kernel_rfl
theorem laidOut : laidOutB Try.prog = true := by kernel_rfl


set_option linter.unusedSimpArgs false
theorem rec_no {R : PlM} {e : EventM} {f : FrameM} {r : List FrameM} (h5 : e.kind = 5) (hf : R.fr = f :: r) (ht : R.told = []) (hb : recB f R.pn = false) : (eventM R e).told = [⟨6, 0, 0, zV⟩] := by
  unfold eventM
  rw [if_neg (by omega), if_neg (by omega), if_neg (by omega), if_neg (by omega), if_pos h5]
  unfold recoverM
  split
  · rename_i f' r' q s hf' hq
    rw [hf] at hf'
    injection hf' with e1 e2
    subst e1
    rw [hq] at hb
    rw [if_neg (by rw [hb]; decide), ht]; rfl
  · rw [ht]; rfl
theorem rec_yes {R : PlM} {e : EventM} {f : FrameM} {r : List FrameM} {q : PanicM} {s : List PanicM} (h5 : e.kind = 5) (hf : R.fr = f :: r) (ht : R.told = []) (hq : R.pn = q :: s) (hb : recB f (q :: s) = true) : (eventM R e).told = [⟨5, 0, 0, plainM q.val⟩] := by
  unfold eventM
  rw [if_neg (by omega), if_neg (by omega), if_neg (by omega), if_neg (by omega), if_pos h5]
  unfold recoverM
  rw [hf, hq]
  dsimp only
  rw [if_pos hb, ht]; rfl
set_option maxRecDepth 20000 in
set_option maxHeartbeats 4000000 in
theorem dir12_nilnot {W : World} {Q : Exit → Act → World → Prop} {s0 s1 s2 s3 s4 s5 s6 s10 s11 s12 s13 s14 s15 s16 s17 s18 s19 s20 s21 s22 s23 s24 s25 s26 s27 s28 s29 s30 s31 s32 s33 s34 s35 s36 s37 s38 s39 s40 s41 s42 s43 s44 s45 s46 s47 s48 s49 s50 s51 s52 s53 s54 s55 s56 s57 s58 s59 s60 s61 s62 s63 s64 s65 s66 s67 s68 s69 s70 s71 s72 s73 s74 s75 s76 s77 s78 s79 s80 s81 s82 s83 s84 s85 s86 s87 s88 s89 s90 s91 s92 s93 s94 s95 s96 s97 s98 s99 s100 s101 s102 s103 s104 s105 s106 s107 s108 s109 s110 s111 s112 s113 : Value} (B1 : Option Addr) (bs bf cP : Nat) (fm fp : Int) (hb1 : bs < W.heap.size) (hb2 : bf < W.heap.size) (Z1 : W.cell? ⟨bs, 1, none⟩ = some (.slice B1 0 cP)) (F1 : W.cell? ⟨bf, 1, none⟩ = some (.int .i64 fm)) (t2 : (fm == 2) = false)
    (hE : ∀ u, Kp W u → Q .normal { tmps := #[s0, s1, s2, s3, s4, s5, s6, .pointer (some ⟨bs, 0, none⟩), .pointer (some ⟨bf, 0, none⟩), .int .i64 (-1), .bool false, s11, s12, s13, s14, s15, s16, s17, s18, s19, s20, s21, s22, s23, s24, s25, s26, s27, s28, s29, s30, s31, s32, s33, s34, s35, s36, s37, s38, s39, s40, s41, s42, s43, s44, s45, s46, s47, s48, .pointer (some ⟨bf, 1, none⟩), .int .i64 fm, .bool false, .bool false, undef, undef, .bool false, .bool false, undef, undef, undef, undef, undef, undef, undef, undef, undef, .bool false, .bool false, undef, undef, undef, undef, undef, undef, undef, .bool false, s76, s77, s78, s79, s80, s81, s82, s83, s84, s85, s86, s87, s88, s89, s90, s91, s92, s93, s94, s95, s96, s97, s98, s99, s100, s101, s102, s103, s104, s105, s106, s107, s108, s109, s110, s111, s112, s113], defers := [] } u) :
    (Code.region 12 (regArr Try.f10 12) true).wp Try.prog Q { tmps := #[s0, s1, s2, s3, s4, s5, s6, .pointer (some ⟨bs, 0, none⟩), .pointer (some ⟨bf, 0, none⟩), .int .i64 (-1), s10, s11, s12, s13, s14, s15, s16, s17, s18, s19, s20, s21, s22, s23, s24, s25, s26, s27, s28, s29, s30, s31, s32, s33, s34, s35, s36, s37, s38, s39, s40, s41, s42, s43, s44, s45, s46, s47, s48, s49, s50, s51, s52, s53, s54, s55, s56, s57, s58, s59, s60, s61, s62, s63, s64, s65, s66, s67, s68, s69, s70, s71, s72, s73, s74, s75, s76, s77, s78, s79, s80, s81, s82, s83, s84, s85, s86, s87, s88, s89, s90, s91, s92, s93, s94, s95, s96, s97, s98, s99, s100, s101, s102, s103, s104, s105, s106, s107, s108, s109, s110, s111, s112, s113], defers := [] } W := by
  simp only [regArr, Try.f10, Option.map_some, Option.getD_some, regOf, if_true, if_false, List.append_nil, List.nil_append, List.toList_toArray, Nat.reduceEqDiff, reduceIte]
  refine wp_region_kp [[], [0], [1], [2], [3], [3, 4], [3, 5], [6], [7], [7, 8], [7], [7, 9, 10], [7, 11], [7, 12], [7], [7, 14], [7, 13, 15], [7, 16], [17], [18], [18, 19], [18], [18, 20, 21], [18, 22], [18, 23], [18, 24], [18, 25], [26]] (fun u => Kp W u)
    [fun (y : Value) (u : World) => y = (.pointer (some ⟨bf, 1, none⟩) : Value),
     fun (y : Value) (u : World) => y = (.int .i64 fm : Value),
     fun (y : Value) (u : World) => y = (.bool false : Value),
     fun (y : Value) (u : World) => y = (.bool false : Value),
     fun (y : Value) (u : World) => y = (undef : Value),
     fun (y : Value) (u : World) => y = (undef : Value),
     fun (y : Value) (u : World) => y = (.bool false : Value),
     fun (y : Value) (u : World) => y = (.bool false : Value),
     fun (y : Value) (u : World) => y = (undef : Value),
     fun (y : Value) (u : World) => y = (undef : Value),
     fun (y : Value) (u : World) => y = (undef : Value),
     fun (y : Value) (u : World) => y = (undef : Value),
     fun (y : Value) (u : World) => y = (undef : Value),
     fun (y : Value) (u : World) => y = (undef : Value),
     fun (y : Value) (u : World) => y = (undef : Value),
     fun (y : Value) (u : World) => y = (undef : Value),
     fun (y : Value) (u : World) => y = (undef : Value),
     fun (y : Value) (u : World) => y = (.bool false : Value),
     fun (y : Value) (u : World) => y = (.bool false : Value),
     fun (y : Value) (u : World) => y = (undef : Value),
     fun (y : Value) (u : World) => y = (undef : Value),
     fun (y : Value) (u : World) => y = (undef : Value),
     fun (y : Value) (u : World) => y = (undef : Value),
     fun (y : Value) (u : World) => y = (undef : Value),
     fun (y : Value) (u : World) => y = (undef : Value),
     fun (y : Value) (u : World) => y = (undef : Value),
     fun (y : Value) (u : World) => y = (.bool false : Value),
     fun (y : Value) (u : World) => y = (.bool false : Value)]
    (by kernel_rfl) (by kernel_rfl) (by kernel_rfl) (by kernel_rfl) ((Kp.refl _).drew) (fun _ _ hk h => h.trans hk) ⟨fun _ _ _ _ h => h, fun _ _ _ _ h => h, fun _ _ _ _ h => h, fun _ _ _ _ h => h, fun _ _ _ _ h => h, fun _ _ _ _ h => h, fun _ _ _ _ h => h, fun _ _ _ _ h => h, fun _ _ _ _ h => h, fun _ _ _ _ h => h, fun _ _ _ _ h => h, fun _ _ _ _ h => h, fun _ _ _ _ h => h, fun _ _ _ _ h => h, fun _ _ _ _ h => h, fun _ _ _ _ h => h, fun _ _ _ _ h => h, fun _ _ _ _ h => h, fun _ _ _ _ h => h, fun _ _ _ _ h => h, fun _ _ _ _ h => h, fun _ _ _ _ h => h, fun _ _ _ _ h => h, fun _ _ _ _ h => h, fun _ _ _ _ h => h, fun _ _ _ _ h => h, fun _ _ _ _ h => h, fun _ _ _ _ h => h, trivial⟩ ⟨?sb0, ?sb1, ?sb2, ?sb3, ?sb4, ?sb5, ?sb6, ?sb7, ?sb8, ?sb9, ?sb10, ?sb11, ?sb12, ?sb13, ?sb14, ?sb15, ?sb16, ?sb17, ?sb18, ?sb19, ?sb20, ?sb21, ?sb22, ?sb23, ?sb24, ?sb25, ?sb26, ?sb27, trivial⟩ ?hEb
  case sb0 =>
    refine OpStepK.by_ ?_
    intro a x u ht hs hg hd K hK
    clear hd
    refine OpGoal.live (wanted_free (by kernel_rfl)) ?_
    have e8 : a.tmps[8]? = some (.pointer (some ⟨bf, 0, none⟩) : Value) := (hs 8).trans (by kernel_rfl)
    clear ht hs
    go_simp
    exact hK.out _ _ (Kp.refl _) rfl
  case sb1 =>
    refine OpStepK.by_ ?_
    intro a x u ht hs hg hd K hK
    have d0 : (x 0) = .pointer (some ⟨bf, 1, none⟩) := And.left hd
    clear hd
    refine OpGoal.live (wanted_free (by kernel_rfl)) ?_
    have e49 : a.tmps[49]? = some (.pointer (some ⟨bf, 1, none⟩) : Value) := (hs 49).trans (Eq.trans (b := some (x 0)) (by kernel_rfl) (by rw [d0]))
    clear d0
    clear ht hs
    have q0 := cell_kp hg hb2 F1
    go_simp
    exact hK.out _ _ (Kp.refl _) rfl
  case sb2 =>
    refine OpStepK.by_ ?_
    intro a x u ht hs hg hd K hK
    have d1 : (x 1) = .int .i64 fm := And.left hd
    clear hd
    refine OpGoal.live (wanted_free (by kernel_rfl)) ?_
    have e50 : a.tmps[50]? = some (.int .i64 fm : Value) := (hs 50).trans (Eq.trans (b := some (x 1)) (by kernel_rfl) (by rw [d1]))
    clear d1
    clear ht hs
    go_simp
    exact hK.out _ _ (Kp.refl _) rfl
  case sb3 =>
    refine OpStepK.by_ ?_
    intro a x u ht hs hg hd K hK
    have d2 : (x 2) = .bool false := And.left hd
    clear hd
    refine OpGoal.live (wanted_free (by kernel_rfl)) ?_
    have e51 : a.eval (Operand.tmp 51) = (.bool false : Value) := (ht 51).trans (Eq.trans (b := x 2) (by kernel_rfl) d2)
    clear d2
    clear ht hs
    refine BigFrame.wp_move _ rfl ?_
    exact hK.out _ _ (Kp.refl _) e51
  case sb4 =>
    refine OpStepK.by_ ?_
    intro a x u ht hs hg hd K hK
    have d3 : (x 3) = .bool false := And.left hd
    clear hd
    refine OpGoal.dead (wanted_no (j := 3) (d := 52) (b := true) (c := false) (by kernel_rfl) (by kernel_rfl) ((hs 52).trans (Eq.trans (b := some (x 3)) (by kernel_rfl) (by rw [d3]))) (by decide)) ?_
    exact hK.out _ _ (Kp.refl _) rfl
  case sb5 =>
    refine OpStepK.by_ ?_
    intro a x u ht hs hg hd K hK
    have d3 : (x 3) = .bool false := And.left hd
    have d4 : (x 4) = undef := And.left (And.right hd)
    clear hd
    refine OpGoal.dead (wanted_no (j := 3) (d := 52) (b := true) (c := false) (by kernel_rfl) (by kernel_rfl) ((hs 52).trans (Eq.trans (b := some (x 3)) (by kernel_rfl) (by rw [d3]))) (by decide)) ?_
    exact hK.out _ _ (Kp.refl _) rfl
  case sb6 =>
    refine OpStepK.by_ ?_
    intro a x u ht hs hg hd K hK
    have d3 : (x 3) = .bool false := And.left hd
    have d5 : (x 5) = undef := And.left (And.right hd)
    clear hd
    refine OpGoal.live (wanted_free (by kernel_rfl)) ?_
    have e52 : a.tmps[52]? = some (.bool false : Value) := (hs 52).trans (Eq.trans (b := some (x 3)) (by kernel_rfl) (by rw [d3]))
    have e54 : a.tmps[54]? = some (undef : Value) := (hs 54).trans (Eq.trans (b := some (x 5)) (by kernel_rfl) (by rw [d5]))
    clear d3 d5
    clear ht hs
    go_simp
    exact hK.out _ _ (Kp.refl _) rfl
  case sb7 =>
    refine OpStepK.by_ ?_
    intro a x u ht hs hg hd K hK
    have d6 : (x 6) = .bool false := And.left hd
    clear hd
    refine OpGoal.live (wanted_free (by kernel_rfl)) ?_
    have e55 : a.eval (Operand.tmp 55) = (.bool false : Value) := (ht 55).trans (Eq.trans (b := x 6) (by kernel_rfl) d6)
    clear d6
    clear ht hs
    refine BigFrame.wp_move _ rfl ?_
    exact hK.out _ _ (Kp.refl _) e55
  case sb8 =>
    refine OpStepK.by_ ?_
    intro a x u ht hs hg hd K hK
    have d7 : (x 7) = .bool false := And.left hd
    clear hd
    refine OpGoal.dead (wanted_no (j := 7) (d := 56) (b := true) (c := false) (by kernel_rfl) (by kernel_rfl) ((hs 56).trans (Eq.trans (b := some (x 7)) (by kernel_rfl) (by rw [d7]))) (by decide)) ?_
    exact hK.out _ _ (Kp.refl _) rfl
  case sb9 =>
    refine OpStepK.by_ ?_
    intro a x u ht hs hg hd K hK
    have d7 : (x 7) = .bool false := And.left hd
    have d8 : (x 8) = undef := And.left (And.right hd)
    clear hd
    refine OpGoal.dead (wanted_no (j := 7) (d := 56) (b := true) (c := false) (by kernel_rfl) (by kernel_rfl) ((hs 56).trans (Eq.trans (b := some (x 7)) (by kernel_rfl) (by rw [d7]))) (by decide)) ?_
    exact hK.out _ _ (Kp.refl _) rfl
  case sb10 =>
    refine OpStepK.by_ ?_
    intro a x u ht hs hg hd K hK
    have d7 : (x 7) = .bool false := And.left hd
    clear hd
    refine OpGoal.dead (wanted_no (j := 7) (d := 56) (b := true) (c := false) (by kernel_rfl) (by kernel_rfl) ((hs 56).trans (Eq.trans (b := some (x 7)) (by kernel_rfl) (by rw [d7]))) (by decide)) ?_
    exact hK.out _ _ (Kp.refl _) rfl
  case sb11 =>
    refine OpStepK.by_ ?_
    intro a x u ht hs hg hd K hK
    have d7 : (x 7) = .bool false := And.left hd
    have d9 : (x 9) = undef := And.left (And.right hd)
    have d10 : (x 10) = undef := And.left (And.right (And.right hd))
    clear hd
    refine OpGoal.dead (wanted_no (j := 7) (d := 56) (b := true) (c := false) (by kernel_rfl) (by kernel_rfl) ((hs 56).trans (Eq.trans (b := some (x 7)) (by kernel_rfl) (by rw [d7]))) (by decide)) ?_
    exact hK.out _ _ (Kp.refl _) rfl
  case sb12 =>
    refine OpStepK.by_ ?_
    intro a x u ht hs hg hd K hK
    have d7 : (x 7) = .bool false := And.left hd
    have d11 : (x 11) = undef := And.left (And.right hd)
    clear hd
    refine OpGoal.dead (wanted_no (j := 7) (d := 56) (b := true) (c := false) (by kernel_rfl) (by kernel_rfl) ((hs 56).trans (Eq.trans (b := some (x 7)) (by kernel_rfl) (by rw [d7]))) (by decide)) ?_
    exact hK.out _ _ (Kp.refl _) rfl
  case sb13 =>
    refine OpStepK.by_ ?_
    intro a x u ht hs hg hd K hK
    have d7 : (x 7) = .bool false := And.left hd
    have d12 : (x 12) = undef := And.left (And.right hd)
    clear hd
    refine OpGoal.dead (wanted_no (j := 7) (d := 56) (b := true) (c := false) (by kernel_rfl) (by kernel_rfl) ((hs 56).trans (Eq.trans (b := some (x 7)) (by kernel_rfl) (by rw [d7]))) (by decide)) ?_
    exact hK.out _ _ (Kp.refl _) rfl
  case sb14 =>
    refine OpStepK.by_ ?_
    intro a x u ht hs hg hd K hK
    have d7 : (x 7) = .bool false := And.left hd
    clear hd
    refine OpGoal.dead (wanted_no (j := 7) (d := 56) (b := true) (c := false) (by kernel_rfl) (by kernel_rfl) ((hs 56).trans (Eq.trans (b := some (x 7)) (by kernel_rfl) (by rw [d7]))) (by decide)) ?_
    exact hK.out _ _ (Kp.refl _) rfl
  case sb15 =>
    refine OpStepK.by_ ?_
    intro a x u ht hs hg hd K hK
    have d7 : (x 7) = .bool false := And.left hd
    have d14 : (x 14) = undef := And.left (And.right hd)
    clear hd
    refine OpGoal.dead (wanted_no (j := 7) (d := 56) (b := true) (c := false) (by kernel_rfl) (by kernel_rfl) ((hs 56).trans (Eq.trans (b := some (x 7)) (by kernel_rfl) (by rw [d7]))) (by decide)) ?_
    exact hK.out _ _ (Kp.refl _) rfl
  case sb16 =>
    refine OpStepK.by_ ?_
    intro a x u ht hs hg hd K hK
    have d7 : (x 7) = .bool false := And.left hd
    have d13 : (x 13) = undef := And.left (And.right hd)
    have d15 : (x 15) = undef := And.left (And.right (And.right hd))
    clear hd
    refine OpGoal.dead (wanted_no (j := 7) (d := 56) (b := true) (c := false) (by kernel_rfl) (by kernel_rfl) ((hs 56).trans (Eq.trans (b := some (x 7)) (by kernel_rfl) (by rw [d7]))) (by decide)) ?_
    exact hK.out _ _ (Kp.refl _) rfl
  case sb17 =>
    refine OpStepK.by_ ?_
    intro a x u ht hs hg hd K hK
    have d7 : (x 7) = .bool false := And.left hd
    have d16 : (x 16) = undef := And.left (And.right hd)
    clear hd
    refine OpGoal.live (wanted_free (by kernel_rfl)) ?_
    have e56 : a.tmps[56]? = some (.bool false : Value) := (hs 56).trans (Eq.trans (b := some (x 7)) (by kernel_rfl) (by rw [d7]))
    have e65 : a.tmps[65]? = some (undef : Value) := (hs 65).trans (Eq.trans (b := some (x 16)) (by kernel_rfl) (by rw [d16]))
    clear d7 d16
    clear ht hs
    go_simp
    exact hK.out _ _ (Kp.refl _) rfl
  case sb18 =>
    refine OpStepK.by_ ?_
    intro a x u ht hs hg hd K hK
    have d17 : (x 17) = .bool false := And.left hd
    clear hd
    refine OpGoal.live (wanted_free (by kernel_rfl)) ?_
    have e66 : a.eval (Operand.tmp 66) = (.bool false : Value) := (ht 66).trans (Eq.trans (b := x 17) (by kernel_rfl) d17)
    clear d17
    clear ht hs
    refine BigFrame.wp_move _ rfl ?_
    exact hK.out _ _ (Kp.refl _) e66
  case sb19 =>
    refine OpStepK.by_ ?_
    intro a x u ht hs hg hd K hK
    have d18 : (x 18) = .bool false := And.left hd
    clear hd
    refine OpGoal.dead (wanted_no (j := 18) (d := 67) (b := true) (c := false) (by kernel_rfl) (by kernel_rfl) ((hs 67).trans (Eq.trans (b := some (x 18)) (by kernel_rfl) (by rw [d18]))) (by decide)) ?_
    exact hK.out _ _ (Kp.refl _) rfl
  case sb20 =>
    refine OpStepK.by_ ?_
    intro a x u ht hs hg hd K hK
    have d18 : (x 18) = .bool false := And.left hd
    have d19 : (x 19) = undef := And.left (And.right hd)
    clear hd
    refine OpGoal.dead (wanted_no (j := 18) (d := 67) (b := true) (c := false) (by kernel_rfl) (by kernel_rfl) ((hs 67).trans (Eq.trans (b := some (x 18)) (by kernel_rfl) (by rw [d18]))) (by decide)) ?_
    exact hK.out _ _ (Kp.refl _) rfl
  case sb21 =>
    refine OpStepK.by_ ?_
    intro a x u ht hs hg hd K hK
    have d18 : (x 18) = .bool false := And.left hd
    clear hd
    refine OpGoal.dead (wanted_no (j := 18) (d := 67) (b := true) (c := false) (by kernel_rfl) (by kernel_rfl) ((hs 67).trans (Eq.trans (b := some (x 18)) (by kernel_rfl) (by rw [d18]))) (by decide)) ?_
    exact hK.out _ _ (Kp.refl _) rfl
  case sb22 =>
    refine OpStepK.by_ ?_
    intro a x u ht hs hg hd K hK
    have d18 : (x 18) = .bool false := And.left hd
    have d20 : (x 20) = undef := And.left (And.right hd)
    have d21 : (x 21) = undef := And.left (And.right (And.right hd))
    clear hd
    refine OpGoal.dead (wanted_no (j := 18) (d := 67) (b := true) (c := false) (by kernel_rfl) (by kernel_rfl) ((hs 67).trans (Eq.trans (b := some (x 18)) (by kernel_rfl) (by rw [d18]))) (by decide)) ?_
    exact hK.out _ _ (Kp.refl _) rfl
  case sb23 =>
    refine OpStepK.by_ ?_
    intro a x u ht hs hg hd K hK
    have d18 : (x 18) = .bool false := And.left hd
    have d22 : (x 22) = undef := And.left (And.right hd)
    clear hd
    refine OpGoal.dead (wanted_no (j := 18) (d := 67) (b := true) (c := false) (by kernel_rfl) (by kernel_rfl) ((hs 67).trans (Eq.trans (b := some (x 18)) (by kernel_rfl) (by rw [d18]))) (by decide)) ?_
    exact hK.out _ _ (Kp.refl _) rfl
  case sb24 =>
    refine OpStepK.by_ ?_
    intro a x u ht hs hg hd K hK
    have d18 : (x 18) = .bool false := And.left hd
    have d23 : (x 23) = undef := And.left (And.right hd)
    clear hd
    refine OpGoal.dead (wanted_no (j := 18) (d := 67) (b := true) (c := false) (by kernel_rfl) (by kernel_rfl) ((hs 67).trans (Eq.trans (b := some (x 18)) (by kernel_rfl) (by rw [d18]))) (by decide)) ?_
    exact hK.out _ _ (Kp.refl _) rfl
  case sb25 =>
    refine OpStepK.by_ ?_
    intro a x u ht hs hg hd K hK
    have d18 : (x 18) = .bool false := And.left hd
    have d24 : (x 24) = undef := And.left (And.right hd)
    clear hd
    refine OpGoal.dead (wanted_no (j := 18) (d := 67) (b := true) (c := false) (by kernel_rfl) (by kernel_rfl) ((hs 67).trans (Eq.trans (b := some (x 18)) (by kernel_rfl) (by rw [d18]))) (by decide)) ?_
    exact hK.out _ _ (Kp.refl _) rfl
  case sb26 =>
    refine OpStepK.by_ ?_
    intro a x u ht hs hg hd K hK
    have d18 : (x 18) = .bool false := And.left hd
    have d25 : (x 25) = undef := And.left (And.right hd)
    clear hd
    refine OpGoal.live (wanted_free (by kernel_rfl)) ?_
    have e67 : a.tmps[67]? = some (.bool false : Value) := (hs 67).trans (Eq.trans (b := some (x 18)) (by kernel_rfl) (by rw [d18]))
    have e74 : a.tmps[74]? = some (undef : Value) := (hs 74).trans (Eq.trans (b := some (x 25)) (by kernel_rfl) (by rw [d25]))
    clear d18 d25
    clear ht hs
    go_simp
    exact hK.out _ _ (Kp.refl _) rfl
  case sb27 =>
    refine OpStepK.by_ ?_
    intro a x u ht hs hg hd K hK
    have d26 : (x 26) = .bool false := And.left hd
    clear hd
    refine OpGoal.live (wanted_free (by kernel_rfl)) ?_
    have e75 : a.eval (Operand.tmp 75) = (.bool false : Value) := (ht 75).trans (Eq.trans (b := x 26) (by kernel_rfl) d26)
    clear d26
    clear ht hs
    refine BigFrame.wp_assign _ rfl ?_
    exact hK.out _ _ (Kp.refl _) e75
  intro x u hg he
  have d0 : (x 0) = .pointer (some ⟨bf, 1, none⟩) := And.left he
  have d1 : (x 1) = .int .i64 fm := And.left (And.right he)
  have d2 : (x 2) = .bool false := And.left (And.right (And.right he))
  have d3 : (x 3) = .bool false := And.left (And.right (And.right (And.right he)))
  have d4 : (x 4) = undef := And.left (And.right (And.right (And.right (And.right he))))
  have d5 : (x 5) = undef := And.left (And.right (And.right (And.right (And.right (And.right he)))))
  have d6 : (x 6) = .bool false := And.left (And.right (And.right (And.right (And.right (And.right (And.right he))))))
  have d7 : (x 7) = .bool false := And.left (And.right (And.right (And.right (And.right (And.right (And.right (And.right he)))))))
  have d8 : (x 8) = undef := And.left (And.right (And.right (And.right (And.right (And.right (And.right (And.right (And.right he))))))))
  have d9 : (x 9) = undef := And.left (And.right (And.right (And.right (And.right (And.right (And.right (And.right (And.right (And.right he)))))))))
  have d10 : (x 10) = undef := And.left (And.right (And.right (And.right (And.right (And.right (And.right (And.right (And.right (And.right (And.right he))))))))))
  have d11 : (x 11) = undef := And.left (And.right (And.right (And.right (And.right (And.right (And.right (And.right (And.right (And.right (And.right (And.right he)))))))))))
  have d12 : (x 12) = undef := And.left (And.right (And.right (And.right (And.right (And.right (And.right (And.right (And.right (And.right (And.right (And.right (And.right he))))))))))))
  have d13 : (x 13) = undef := And.left (And.right (And.right (And.right (And.right (And.right (And.right (And.right (And.right (And.right (And.right (And.right (And.right (And.right he)))))))))))))
  have d14 : (x 14) = undef := And.left (And.right (And.right (And.right (And.right (And.right (And.right (And.right (And.right (And.right (And.right (And.right (And.right (And.right (And.right he))))))))))))))
  have d15 : (x 15) = undef := And.left (And.right (And.right (And.right (And.right (And.right (And.right (And.right (And.right (And.right (And.right (And.right (And.right (And.right (And.right (And.right he)))))))))))))))
  have d16 : (x 16) = undef := And.left (And.right (And.right (And.right (And.right (And.right (And.right (And.right (And.right (And.right (And.right (And.right (And.right (And.right (And.right (And.right (And.right he))))))))))))))))
  have d17 : (x 17) = .bool false := And.left (And.right (And.right (And.right (And.right (And.right (And.right (And.right (And.right (And.right (And.right (And.right (And.right (And.right (And.right (And.right (And.right (And.right he)))))))))))))))))
  have d18 : (x 18) = .bool false := And.left (And.right (And.right (And.right (And.right (And.right (And.right (And.right (And.right (And.right (And.right (And.right (And.right (And.right (And.right (And.right (And.right (And.right (And.right he))))))))))))))))))
  have d19 : (x 19) = undef := And.left (And.right (And.right (And.right (And.right (And.right (And.right (And.right (And.right (And.right (And.right (And.right (And.right (And.right (And.right (And.right (And.right (And.right (And.right (And.right he)))))))))))))))))))
  have d20 : (x 20) = undef := And.left (And.right (And.right (And.right (And.right (And.right (And.right (And.right (And.right (And.right (And.right (And.right (And.right (And.right (And.right (And.right (And.right (And.right (And.right (And.right (And.right he))))))))))))))))))))
  have d21 : (x 21) = undef := And.left (And.right (And.right (And.right (And.right (And.right (And.right (And.right (And.right (And.right (And.right (And.right (And.right (And.right (And.right (And.right (And.right (And.right (And.right (And.right (And.right (And.right he)))))))))))))))))))))
  have d22 : (x 22) = undef := And.left (And.right (And.right (And.right (And.right (And.right (And.right (And.right (And.right (And.right (And.right (And.right (And.right (And.right (And.right (And.right (And.right (And.right (And.right (And.right (And.right (And.right (And.right he))))))))))))))))))))))
  have d23 : (x 23) = undef := And.left (And.right (And.right (And.right (And.right (And.right (And.right (And.right (And.right (And.right (And.right (And.right (And.right (And.right (And.right (And.right (And.right (And.right (And.right (And.right (And.right (And.right (And.right (And.right he)))))))))))))))))))))))
  have d24 : (x 24) = undef := And.left (And.right (And.right (And.right (And.right (And.right (And.right (And.right (And.right (And.right (And.right (And.right (And.right (And.right (And.right (And.right (And.right (And.right (And.right (And.right (And.right (And.right (And.right (And.right (And.right he))))))))))))))))))))))))
  have d25 : (x 25) = undef := And.left (And.right (And.right (And.right (And.right (And.right (And.right (And.right (And.right (And.right (And.right (And.right (And.right (And.right (And.right (And.right (And.right (And.right (And.right (And.right (And.right (And.right (And.right (And.right (And.right (And.right he)))))))))))))))))))))))))
  have d26 : (x 26) = .bool false := And.left (And.right (And.right (And.right (And.right (And.right (And.right (And.right (And.right (And.right (And.right (And.right (And.right (And.right (And.right (And.right (And.right (And.right (And.right (And.right (And.right (And.right (And.right (And.right (And.right (And.right (And.right he))))))))))))))))))))))))))
  have d27 : (x 27) = .bool false := And.left (And.right (And.right (And.right (And.right (And.right (And.right (And.right (And.right (And.right (And.right (And.right (And.right (And.right (And.right (And.right (And.right (And.right (And.right (And.right (And.right (And.right (And.right (And.right (And.right (And.right (And.right (And.right he)))))))))))))))))))))))))))
  clear he
  refine ⟨?_⟩
  simp only [putsFrom, Act.put, List.setIfInBounds_toArray, List.set_cons_zero, List.set_cons_succ, Nat.reduceAdd, d0, d1, d2, d3, d4, d5, d6, d7, d8, d9, d10, d11, d12, d13, d14, d15, d16, d17, d18, d19, d20, d21, d22, d23, d24, d25, d26, d27]
  clear d0 d1 d2 d3 d4 d5 d6 d7 d8 d9 d10 d11 d12 d13 d14 d15 d16 d17 d18 d19 d20 d21 d22 d23 d24 d25 d26 d27
  exact hE _ hg
set_option maxRecDepth 20000 in
set_option maxHeartbeats 4000000 in
theorem dir12_nilyes {W : World} {Q : Exit → Act → World → Prop} {s0 s1 s2 s3 s4 s5 s6 s10 s11 s12 s13 s14 s15 s16 s17 s18 s19 s20 s21 s22 s23 s24 s25 s26 s27 s28 s29 s30 s31 s32 s33 s34 s35 s36 s37 s38 s39 s40 s41 s42 s43 s44 s45 s46 s47 s48 s49 s50 s51 s52 s53 s54 s55 s56 s57 s58 s59 s60 s61 s62 s63 s64 s65 s66 s67 s68 s69 s70 s71 s72 s73 s74 s75 s76 s77 s78 s79 s80 s81 s82 s83 s84 s85 s86 s87 s88 s89 s90 s91 s92 s93 s94 s95 s96 s97 s98 s99 s100 s101 s102 s103 s104 s105 s106 s107 s108 s109 s110 s111 s112 s113 : Value} (B1 : Option Addr) (bs bf cP : Nat) (fm fp : Int) (hb1 : bs < W.heap.size) (hb2 : bf < W.heap.size) (Z1 : W.cell? ⟨bs, 1, none⟩ = some (.slice B1 0 cP)) (F1 : W.cell? ⟨bf, 1, none⟩ = some (.int .i64 fm)) (t2 : (fm == 2) = true)
    (hE : ∀ u, Kp W u → Q .normal { tmps := #[s0, s1, s2, s3, s4, s5, s6, .pointer (some ⟨bs, 0, none⟩), .pointer (some ⟨bf, 0, none⟩), .int .i64 (-1), .bool false, s11, s12, s13, s14, s15, s16, s17, s18, s19, s20, s21, s22, s23, s24, s25, s26, s27, s28, s29, s30, s31, s32, s33, s34, s35, s36, s37, s38, s39, s40, s41, s42, s43, s44, s45, s46, s47, s48, .pointer (some ⟨bf, 1, none⟩), .int .i64 fm, .bool true, .bool true, .int .i64 (-1), .bool false, .bool false, .bool false, undef, undef, undef, undef, undef, undef, undef, undef, undef, .bool false, .bool false, undef, undef, undef, undef, undef, undef, undef, .bool false, s76, s77, s78, s79, s80, s81, s82, s83, s84, s85, s86, s87, s88, s89, s90, s91, s92, s93, s94, s95, s96, s97, s98, s99, s100, s101, s102, s103, s104, s105, s106, s107, s108, s109, s110, s111, s112, s113], defers := [] } u) :
    (Code.region 12 (regArr Try.f10 12) true).wp Try.prog Q { tmps := #[s0, s1, s2, s3, s4, s5, s6, .pointer (some ⟨bs, 0, none⟩), .pointer (some ⟨bf, 0, none⟩), .int .i64 (-1), s10, s11, s12, s13, s14, s15, s16, s17, s18, s19, s20, s21, s22, s23, s24, s25, s26, s27, s28, s29, s30, s31, s32, s33, s34, s35, s36, s37, s38, s39, s40, s41, s42, s43, s44, s45, s46, s47, s48, s49, s50, s51, s52, s53, s54, s55, s56, s57, s58, s59, s60, s61, s62, s63, s64, s65, s66, s67, s68, s69, s70, s71, s72, s73, s74, s75, s76, s77, s78, s79, s80, s81, s82, s83, s84, s85, s86, s87, s88, s89, s90, s91, s92, s93, s94, s95, s96, s97, s98, s99, s100, s101, s102, s103, s104, s105, s106, s107, s108, s109, s110, s111, s112, s113], defers := [] } W := by
  simp only [regArr, Try.f10, Option.map_some, Option.getD_some, regOf, if_true, if_false, List.append_nil, List.nil_append, List.toList_toArray, Nat.reduceEqDiff, reduceIte]
  refine wp_region_kp [[], [0], [1], [2], [3], [3, 4], [3, 5], [6], [7], [7, 8], [7], [7, 9, 10], [7, 11], [7, 12], [7], [7, 14], [7, 13, 15], [7, 16], [17], [18], [18, 19], [18], [18, 20, 21], [18, 22], [18, 23], [18, 24], [18, 25], [26]] (fun u => Kp W u)
    [fun (y : Value) (u : World) => y = (.pointer (some ⟨bf, 1, none⟩) : Value),
     fun (y : Value) (u : World) => y = (.int .i64 fm : Value),
     fun (y : Value) (u : World) => y = (.bool true : Value),
     fun (y : Value) (u : World) => y = (.bool true : Value),
     fun (y : Value) (u : World) => y = (.int .i64 (-1) : Value),
     fun (y : Value) (u : World) => y = (.bool false : Value),
     fun (y : Value) (u : World) => y = (.bool false : Value),
     fun (y : Value) (u : World) => y = (.bool false : Value),
     fun (y : Value) (u : World) => y = (undef : Value),
     fun (y : Value) (u : World) => y = (undef : Value),
     fun (y : Value) (u : World) => y = (undef : Value),
     fun (y : Value) (u : World) => y = (undef : Value),
     fun (y : Value) (u : World) => y = (undef : Value),
     fun (y : Value) (u : World) => y = (undef : Value),
     fun (y : Value) (u : World) => y = (undef : Value),
     fun (y : Value) (u : World) => y = (undef : Value),
     fun (y : Value) (u : World) => y = (undef : Value),
     fun (y : Value) (u : World) => y = (.bool false : Value),
     fun (y : Value) (u : World) => y = (.bool false : Value),
     fun (y : Value) (u : World) => y = (undef : Value),
     fun (y : Value) (u : World) => y = (undef : Value),
     fun (y : Value) (u : World) => y = (undef : Value),
     fun (y : Value) (u : World) => y = (undef : Value),
     fun (y : Value) (u : World) => y = (undef : Value),
     fun (y : Value) (u : World) => y = (undef : Value),
     fun (y : Value) (u : World) => y = (undef : Value),
     fun (y : Value) (u : World) => y = (.bool false : Value),
     fun (y : Value) (u : World) => y = (.bool false : Value)]
    (by kernel_rfl) (by kernel_rfl) (by kernel_rfl) (by kernel_rfl) ((Kp.refl _).drew) (fun _ _ hk h => h.trans hk) ⟨fun _ _ _ _ h => h, fun _ _ _ _ h => h, fun _ _ _ _ h => h, fun _ _ _ _ h => h, fun _ _ _ _ h => h, fun _ _ _ _ h => h, fun _ _ _ _ h => h, fun _ _ _ _ h => h, fun _ _ _ _ h => h, fun _ _ _ _ h => h, fun _ _ _ _ h => h, fun _ _ _ _ h => h, fun _ _ _ _ h => h, fun _ _ _ _ h => h, fun _ _ _ _ h => h, fun _ _ _ _ h => h, fun _ _ _ _ h => h, fun _ _ _ _ h => h, fun _ _ _ _ h => h, fun _ _ _ _ h => h, fun _ _ _ _ h => h, fun _ _ _ _ h => h, fun _ _ _ _ h => h, fun _ _ _ _ h => h, fun _ _ _ _ h => h, fun _ _ _ _ h => h, fun _ _ _ _ h => h, fun _ _ _ _ h => h, trivial⟩ ⟨?sc0, ?sc1, ?sc2, ?sc3, ?sc4, ?sc5, ?sc6, ?sc7, ?sc8, ?sc9, ?sc10, ?sc11, ?sc12, ?sc13, ?sc14, ?sc15, ?sc16, ?sc17, ?sc18, ?sc19, ?sc20, ?sc21, ?sc22, ?sc23, ?sc24, ?sc25, ?sc26, ?sc27, trivial⟩ ?hEc
  case sc0 =>
    refine OpStepK.by_ ?_
    intro a x u ht hs hg hd K hK
    clear hd
    refine OpGoal.live (wanted_free (by kernel_rfl)) ?_
    have e8 : a.tmps[8]? = some (.pointer (some ⟨bf, 0, none⟩) : Value) := (hs 8).trans (by kernel_rfl)
    clear ht hs
    go_simp
    exact hK.out _ _ (Kp.refl _) rfl
  case sc1 =>
    refine OpStepK.by_ ?_
    intro a x u ht hs hg hd K hK
    have d0 : (x 0) = .pointer (some ⟨bf, 1, none⟩) := And.left hd
    clear hd
    refine OpGoal.live (wanted_free (by kernel_rfl)) ?_
    have e49 : a.tmps[49]? = some (.pointer (some ⟨bf, 1, none⟩) : Value) := (hs 49).trans (Eq.trans (b := some (x 0)) (by kernel_rfl) (by rw [d0]))
    clear d0
    clear ht hs
    have q0 := cell_kp hg hb2 F1
    go_simp
    exact hK.out _ _ (Kp.refl _) rfl
  case sc2 =>
    refine OpStepK.by_ ?_
    intro a x u ht hs hg hd K hK
    have d1 : (x 1) = .int .i64 fm := And.left hd
    clear hd
    refine OpGoal.live (wanted_free (by kernel_rfl)) ?_
    have e50 : a.tmps[50]? = some (.int .i64 fm : Value) := (hs 50).trans (Eq.trans (b := some (x 1)) (by kernel_rfl) (by rw [d1]))
    clear d1
    clear ht hs
    go_simp
    exact hK.out _ _ (Kp.refl _) rfl
  case sc3 =>
    refine OpStepK.by_ ?_
    intro a x u ht hs hg hd K hK
    have d2 : (x 2) = .bool true := And.left hd
    clear hd
    refine OpGoal.live (wanted_free (by kernel_rfl)) ?_
    have e51 : a.eval (Operand.tmp 51) = (.bool true : Value) := (ht 51).trans (Eq.trans (b := x 2) (by kernel_rfl) d2)
    clear d2
    clear ht hs
    refine BigFrame.wp_move _ rfl ?_
    exact hK.out _ _ (Kp.refl _) e51
  case sc4 =>
    refine OpStepK.by_ ?_
    intro a x u ht hs hg hd K hK
    have d3 : (x 3) = .bool true := And.left hd
    clear hd
    refine OpGoal.live (wanted_yes (j := 3) (d := 52) (by kernel_rfl) (by kernel_rfl) ((hs 52).trans (Eq.trans (b := some (x 3)) (by kernel_rfl) (by rw [d3])))) ?_
    have e9 : a.eval (Operand.tmp 9) = (.int .i64 (-1) : Value) := (ht 9).trans (by kernel_rfl)
    clear d3
    clear ht hs
    refine BigFrame.wp_move _ rfl ?_
    exact hK.out _ _ (Kp.refl _) e9
  case sc5 =>
    refine OpStepK.by_ ?_
    intro a x u ht hs hg hd K hK
    have d3 : (x 3) = .bool true := And.left hd
    have d4 : (x 4) = .int .i64 (-1) := And.left (And.right hd)
    clear hd
    refine OpGoal.live (wanted_yes (j := 3) (d := 52) (by kernel_rfl) (by kernel_rfl) ((hs 52).trans (Eq.trans (b := some (x 3)) (by kernel_rfl) (by rw [d3])))) ?_
    have e53 : a.tmps[53]? = some (.int .i64 (-1) : Value) := (hs 53).trans (Eq.trans (b := some (x 4)) (by kernel_rfl) (by rw [d4]))
    clear d3 d4
    clear ht hs
    go_simp
    exact hK.out _ _ (Kp.refl _) rfl
  case sc6 =>
    refine OpStepK.by_ ?_
    intro a x u ht hs hg hd K hK
    have d3 : (x 3) = .bool true := And.left hd
    have d5 : (x 5) = .bool false := And.left (And.right hd)
    clear hd
    refine OpGoal.live (wanted_free (by kernel_rfl)) ?_
    have e52 : a.tmps[52]? = some (.bool true : Value) := (hs 52).trans (Eq.trans (b := some (x 3)) (by kernel_rfl) (by rw [d3]))
    have e54 : a.tmps[54]? = some (.bool false : Value) := (hs 54).trans (Eq.trans (b := some (x 5)) (by kernel_rfl) (by rw [d5]))
    clear d3 d5
    clear ht hs
    go_simp
    exact hK.out _ _ (Kp.refl _) rfl
  case sc7 =>
    refine OpStepK.by_ ?_
    intro a x u ht hs hg hd K hK
    have d6 : (x 6) = .bool false := And.left hd
    clear hd
    refine OpGoal.live (wanted_free (by kernel_rfl)) ?_
    have e55 : a.eval (Operand.tmp 55) = (.bool false : Value) := (ht 55).trans (Eq.trans (b := x 6) (by kernel_rfl) d6)
    clear d6
    clear ht hs
    refine BigFrame.wp_move _ rfl ?_
    exact hK.out _ _ (Kp.refl _) e55
  case sc8 =>
    refine OpStepK.by_ ?_
    intro a x u ht hs hg hd K hK
    have d7 : (x 7) = .bool false := And.left hd
    clear hd
    refine OpGoal.dead (wanted_no (j := 7) (d := 56) (b := true) (c := false) (by kernel_rfl) (by kernel_rfl) ((hs 56).trans (Eq.trans (b := some (x 7)) (by kernel_rfl) (by rw [d7]))) (by decide)) ?_
    exact hK.out _ _ (Kp.refl _) rfl
  case sc9 =>
    refine OpStepK.by_ ?_
    intro a x u ht hs hg hd K hK
    have d7 : (x 7) = .bool false := And.left hd
    have d8 : (x 8) = undef := And.left (And.right hd)
    clear hd
    refine OpGoal.dead (wanted_no (j := 7) (d := 56) (b := true) (c := false) (by kernel_rfl) (by kernel_rfl) ((hs 56).trans (Eq.trans (b := some (x 7)) (by kernel_rfl) (by rw [d7]))) (by decide)) ?_
    exact hK.out _ _ (Kp.refl _) rfl
  case sc10 =>
    refine OpStepK.by_ ?_
    intro a x u ht hs hg hd K hK
    have d7 : (x 7) = .bool false := And.left hd
    clear hd
    refine OpGoal.dead (wanted_no (j := 7) (d := 56) (b := true) (c := false) (by kernel_rfl) (by kernel_rfl) ((hs 56).trans (Eq.trans (b := some (x 7)) (by kernel_rfl) (by rw [d7]))) (by decide)) ?_
    exact hK.out _ _ (Kp.refl _) rfl
  case sc11 =>
    refine OpStepK.by_ ?_
    intro a x u ht hs hg hd K hK
    have d7 : (x 7) = .bool false := And.left hd
    have d9 : (x 9) = undef := And.left (And.right hd)
    have d10 : (x 10) = undef := And.left (And.right (And.right hd))
    clear hd
    refine OpGoal.dead (wanted_no (j := 7) (d := 56) (b := true) (c := false) (by kernel_rfl) (by kernel_rfl) ((hs 56).trans (Eq.trans (b := some (x 7)) (by kernel_rfl) (by rw [d7]))) (by decide)) ?_
    exact hK.out _ _ (Kp.refl _) rfl
  case sc12 =>
    refine OpStepK.by_ ?_
    intro a x u ht hs hg hd K hK
    have d7 : (x 7) = .bool false := And.left hd
    have d11 : (x 11) = undef := And.left (And.right hd)
    clear hd
    refine OpGoal.dead (wanted_no (j := 7) (d := 56) (b := true) (c := false) (by kernel_rfl) (by kernel_rfl) ((hs 56).trans (Eq.trans (b := some (x 7)) (by kernel_rfl) (by rw [d7]))) (by decide)) ?_
    exact hK.out _ _ (Kp.refl _) rfl
  case sc13 =>
    refine OpStepK.by_ ?_
    intro a x u ht hs hg hd K hK
    have d7 : (x 7) = .bool false := And.left hd
    have d12 : (x 12) = undef := And.left (And.right hd)
    clear hd
    refine OpGoal.dead (wanted_no (j := 7) (d := 56) (b := true) (c := false) (by kernel_rfl) (by kernel_rfl) ((hs 56).trans (Eq.trans (b := some (x 7)) (by kernel_rfl) (by rw [d7]))) (by decide)) ?_
    exact hK.out _ _ (Kp.refl _) rfl
  case sc14 =>
    refine OpStepK.by_ ?_
    intro a x u ht hs hg hd K hK
    have d7 : (x 7) = .bool false := And.left hd
    clear hd
    refine OpGoal.dead (wanted_no (j := 7) (d := 56) (b := true) (c := false) (by kernel_rfl) (by kernel_rfl) ((hs 56).trans (Eq.trans (b := some (x 7)) (by kernel_rfl) (by rw [d7]))) (by decide)) ?_
    exact hK.out _ _ (Kp.refl _) rfl
  case sc15 =>
    refine OpStepK.by_ ?_
    intro a x u ht hs hg hd K hK
    have d7 : (x 7) = .bool false := And.left hd
    have d14 : (x 14) = undef := And.left (And.right hd)
    clear hd
    refine OpGoal.dead (wanted_no (j := 7) (d := 56) (b := true) (c := false) (by kernel_rfl) (by kernel_rfl) ((hs 56).trans (Eq.trans (b := some (x 7)) (by kernel_rfl) (by rw [d7]))) (by decide)) ?_
    exact hK.out _ _ (Kp.refl _) rfl
  case sc16 =>
    refine OpStepK.by_ ?_
    intro a x u ht hs hg hd K hK
    have d7 : (x 7) = .bool false := And.left hd
    have d13 : (x 13) = undef := And.left (And.right hd)
    have d15 : (x 15) = undef := And.left (And.right (And.right hd))
    clear hd
    refine OpGoal.dead (wanted_no (j := 7) (d := 56) (b := true) (c := false) (by kernel_rfl) (by kernel_rfl) ((hs 56).trans (Eq.trans (b := some (x 7)) (by kernel_rfl) (by rw [d7]))) (by decide)) ?_
    exact hK.out _ _ (Kp.refl _) rfl
  case sc17 =>
    refine OpStepK.by_ ?_
    intro a x u ht hs hg hd K hK
    have d7 : (x 7) = .bool false := And.left hd
    have d16 : (x 16) = undef := And.left (And.right hd)
    clear hd
    refine OpGoal.live (wanted_free (by kernel_rfl)) ?_
    have e56 : a.tmps[56]? = some (.bool false : Value) := (hs 56).trans (Eq.trans (b := some (x 7)) (by kernel_rfl) (by rw [d7]))
    have e65 : a.tmps[65]? = some (undef : Value) := (hs 65).trans (Eq.trans (b := some (x 16)) (by kernel_rfl) (by rw [d16]))
    clear d7 d16
    clear ht hs
    go_simp
    exact hK.out _ _ (Kp.refl _) rfl
  case sc18 =>
    refine OpStepK.by_ ?_
    intro a x u ht hs hg hd K hK
    have d17 : (x 17) = .bool false := And.left hd
    clear hd
    refine OpGoal.live (wanted_free (by kernel_rfl)) ?_
    have e66 : a.eval (Operand.tmp 66) = (.bool false : Value) := (ht 66).trans (Eq.trans (b := x 17) (by kernel_rfl) d17)
    clear d17
    clear ht hs
    refine BigFrame.wp_move _ rfl ?_
    exact hK.out _ _ (Kp.refl _) e66
  case sc19 =>
    refine OpStepK.by_ ?_
    intro a x u ht hs hg hd K hK
    have d18 : (x 18) = .bool false := And.left hd
    clear hd
    refine OpGoal.dead (wanted_no (j := 18) (d := 67) (b := true) (c := false) (by kernel_rfl) (by kernel_rfl) ((hs 67).trans (Eq.trans (b := some (x 18)) (by kernel_rfl) (by rw [d18]))) (by decide)) ?_
    exact hK.out _ _ (Kp.refl _) rfl
  case sc20 =>
    refine OpStepK.by_ ?_
    intro a x u ht hs hg hd K hK
    have d18 : (x 18) = .bool false := And.left hd
    have d19 : (x 19) = undef := And.left (And.right hd)
    clear hd
    refine OpGoal.dead (wanted_no (j := 18) (d := 67) (b := true) (c := false) (by kernel_rfl) (by kernel_rfl) ((hs 67).trans (Eq.trans (b := some (x 18)) (by kernel_rfl) (by rw [d18]))) (by decide)) ?_
    exact hK.out _ _ (Kp.refl _) rfl
  case sc21 =>
    refine OpStepK.by_ ?_
    intro a x u ht hs hg hd K hK
    have d18 : (x 18) = .bool false := And.left hd
    clear hd
    refine OpGoal.dead (wanted_no (j := 18) (d := 67) (b := true) (c := false) (by kernel_rfl) (by kernel_rfl) ((hs 67).trans (Eq.trans (b := some (x 18)) (by kernel_rfl) (by rw [d18]))) (by decide)) ?_
    exact hK.out _ _ (Kp.refl _) rfl
  case sc22 =>
    refine OpStepK.by_ ?_
    intro a x u ht hs hg hd K hK
    have d18 : (x 18) = .bool false := And.left hd
    have d20 : (x 20) = undef := And.left (And.right hd)
    have d21 : (x 21) = undef := And.left (And.right (And.right hd))
    clear hd
    refine OpGoal.dead (wanted_no (j := 18) (d := 67) (b := true) (c := false) (by kernel_rfl) (by kernel_rfl) ((hs 67).trans (Eq.trans (b := some (x 18)) (by kernel_rfl) (by rw [d18]))) (by decide)) ?_
    exact hK.out _ _ (Kp.refl _) rfl
  case sc23 =>
    refine OpStepK.by_ ?_
    intro a x u ht hs hg hd K hK
    have d18 : (x 18) = .bool false := And.left hd
    have d22 : (x 22) = undef := And.left (And.right hd)
    clear hd
    refine OpGoal.dead (wanted_no (j := 18) (d := 67) (b := true) (c := false) (by kernel_rfl) (by kernel_rfl) ((hs 67).trans (Eq.trans (b := some (x 18)) (by kernel_rfl) (by rw [d18]))) (by decide)) ?_
    exact hK.out _ _ (Kp.refl _) rfl
  case sc24 =>
    refine OpStepK.by_ ?_
    intro a x u ht hs hg hd K hK
    have d18 : (x 18) = .bool false := And.left hd
    have d23 : (x 23) = undef := And.left (And.right hd)
    clear hd
    refine OpGoal.dead (wanted_no (j := 18) (d := 67) (b := true) (c := false) (by kernel_rfl) (by kernel_rfl) ((hs 67).trans (Eq.trans (b := some (x 18)) (by kernel_rfl) (by rw [d18]))) (by decide)) ?_
    exact hK.out _ _ (Kp.refl _) rfl
  case sc25 =>
    refine OpStepK.by_ ?_
    intro a x u ht hs hg hd K hK
    have d18 : (x 18) = .bool false := And.left hd
    have d24 : (x 24) = undef := And.left (And.right hd)
    clear hd
    refine OpGoal.dead (wanted_no (j := 18) (d := 67) (b := true) (c := false) (by kernel_rfl) (by kernel_rfl) ((hs 67).trans (Eq.trans (b := some (x 18)) (by kernel_rfl) (by rw [d18]))) (by decide)) ?_
    exact hK.out _ _ (Kp.refl _) rfl
  case sc26 =>
    refine OpStepK.by_ ?_
    intro a x u ht hs hg hd K hK
    have d18 : (x 18) = .bool false := And.left hd
    have d25 : (x 25) = undef := And.left (And.right hd)
    clear hd
    refine OpGoal.live (wanted_free (by kernel_rfl)) ?_
    have e67 : a.tmps[67]? = some (.bool false : Value) := (hs 67).trans (Eq.trans (b := some (x 18)) (by kernel_rfl) (by rw [d18]))
    have e74 : a.tmps[74]? = some (undef : Value) := (hs 74).trans (Eq.trans (b := some (x 25)) (by kernel_rfl) (by rw [d25]))
    clear d18 d25
    clear ht hs
    go_simp
    exact hK.out _ _ (Kp.refl _) rfl
  case sc27 =>
    refine OpStepK.by_ ?_
    intro a x u ht hs hg hd K hK
    have d26 : (x 26) = .bool false := And.left hd
    clear hd
    refine OpGoal.live (wanted_free (by kernel_rfl)) ?_
    have e75 : a.eval (Operand.tmp 75) = (.bool false : Value) := (ht 75).trans (Eq.trans (b := x 26) (by kernel_rfl) d26)
    clear d26
    clear ht hs
    refine BigFrame.wp_assign _ rfl ?_
    exact hK.out _ _ (Kp.refl _) e75
  intro x u hg he
  have d0 : (x 0) = .pointer (some ⟨bf, 1, none⟩) := And.left he
  have d1 : (x 1) = .int .i64 fm := And.left (And.right he)
  have d2 : (x 2) = .bool true := And.left (And.right (And.right he))
  have d3 : (x 3) = .bool true := And.left (And.right (And.right (And.right he)))
  have d4 : (x 4) = .int .i64 (-1) := And.left (And.right (And.right (And.right (And.right he))))
  have d5 : (x 5) = .bool false := And.left (And.right (And.right (And.right (And.right (And.right he)))))
  have d6 : (x 6) = .bool false := And.left (And.right (And.right (And.right (And.right (And.right (And.right he))))))
  have d7 : (x 7) = .bool false := And.left (And.right (And.right (And.right (And.right (And.right (And.right (And.right he)))))))
  have d8 : (x 8) = undef := And.left (And.right (And.right (And.right (And.right (And.right (And.right (And.right (And.right he))))))))
  have d9 : (x 9) = undef := And.left (And.right (And.right (And.right (And.right (And.right (And.right (And.right (And.right (And.right he)))))))))
  have d10 : (x 10) = undef := And.left (And.right (And.right (And.right (And.right (And.right (And.right (And.right (And.right (And.right (And.right he))))))))))
  have d11 : (x 11) = undef := And.left (And.right (And.right (And.right (And.right (And.right (And.right (And.right (And.right (And.right (And.right (And.right he)))))))))))
  have d12 : (x 12) = undef := And.left (And.right (And.right (And.right (And.right (And.right (And.right (And.right (And.right (And.right (And.right (And.right (And.right he))))))))))))
  have d13 : (x 13) = undef := And.left (And.right (And.right (And.right (And.right (And.right (And.right (And.right (And.right (And.right (And.right (And.right (And.right (And.right he)))))))))))))
  have d14 : (x 14) = undef := And.left (And.right (And.right (And.right (And.right (And.right (And.right (And.right (And.right (And.right (And.right (And.right (And.right (And.right (And.right he))))))))))))))
  have d15 : (x 15) = undef := And.left (And.right (And.right (And.right (And.right (And.right (And.right (And.right (And.right (And.right (And.right (And.right (And.right (And.right (And.right (And.right he)))))))))))))))
  have d16 : (x 16) = undef := And.left (And.right (And.right (And.right (And.right (And.right (And.right (And.right (And.right (And.right (And.right (And.right (And.right (And.right (And.right (And.right (And.right he))))))))))))))))
  have d17 : (x 17) = .bool false := And.left (And.right (And.right (And.right (And.right (And.right (And.right (And.right (And.right (And.right (And.right (And.right (And.right (And.right (And.right (And.right (And.right (And.right he)))))))))))))))))
  have d18 : (x 18) = .bool false := And.left (And.right (And.right (And.right (And.right (And.right (And.right (And.right (And.right (And.right (And.right (And.right (And.right (And.right (And.right (And.right (And.right (And.right (And.right he))))))))))))))))))
  have d19 : (x 19) = undef := And.left (And.right (And.right (And.right (And.right (And.right (And.right (And.right (And.right (And.right (And.right (And.right (And.right (And.right (And.right (And.right (And.right (And.right (And.right (And.right he)))))))))))))))))))
  have d20 : (x 20) = undef := And.left (And.right (And.right (And.right (And.right (And.right (And.right (And.right (And.right (And.right (And.right (And.right (And.right (And.right (And.right (And.right (And.right (And.right (And.right (And.right (And.right he))))))))))))))))))))
  have d21 : (x 21) = undef := And.left (And.right (And.right (And.right (And.right (And.right (And.right (And.right (And.right (And.right (And.right (And.right (And.right (And.right (And.right (And.right (And.right (And.right (And.right (And.right (And.right (And.right he)))))))))))))))))))))
  have d22 : (x 22) = undef := And.left (And.right (And.right (And.right (And.right (And.right (And.right (And.right (And.right (And.right (And.right (And.right (And.right (And.right (And.right (And.right (And.right (And.right (And.right (And.right (And.right (And.right (And.right he))))))))))))))))))))))
  have d23 : (x 23) = undef := And.left (And.right (And.right (And.right (And.right (And.right (And.right (And.right (And.right (And.right (And.right (And.right (And.right (And.right (And.right (And.right (And.right (And.right (And.right (And.right (And.right (And.right (And.right (And.right he)))))))))))))))))))))))
  have d24 : (x 24) = undef := And.left (And.right (And.right (And.right (And.right (And.right (And.right (And.right (And.right (And.right (And.right (And.right (And.right (And.right (And.right (And.right (And.right (And.right (And.right (And.right (And.right (And.right (And.right (And.right (And.right he))))))))))))))))))))))))
  have d25 : (x 25) = undef := And.left (And.right (And.right (And.right (And.right (And.right (And.right (And.right (And.right (And.right (And.right (And.right (And.right (And.right (And.right (And.right (And.right (And.right (And.right (And.right (And.right (And.right (And.right (And.right (And.right (And.right he)))))))))))))))))))))))))
  have d26 : (x 26) = .bool false := And.left (And.right (And.right (And.right (And.right (And.right (And.right (And.right (And.right (And.right (And.right (And.right (And.right (And.right (And.right (And.right (And.right (And.right (And.right (And.right (And.right (And.right (And.right (And.right (And.right (And.right (And.right he))))))))))))))))))))))))))
  have d27 : (x 27) = .bool false := And.left (And.right (And.right (And.right (And.right (And.right (And.right (And.right (And.right (And.right (And.right (And.right (And.right (And.right (And.right (And.right (And.right (And.right (And.right (And.right (And.right (And.right (And.right (And.right (And.right (And.right (And.right (And.right he)))))))))))))))))))))))))))
  clear he
  refine ⟨?_⟩
  simp only [putsFrom, Act.put, List.setIfInBounds_toArray, List.set_cons_zero, List.set_cons_succ, Nat.reduceAdd, d0, d1, d2, d3, d4, d5, d6, d7, d8, d9, d10, d11, d12, d13, d14, d15, d16, d17, d18, d19, d20, d21, d22, d23, d24, d25, d26, d27]
  clear d0 d1 d2 d3 d4 d5 d6 d7 d8 d9 d10 d11 d12 d13 d14 d15 d16 d17 d18 d19 d20 d21 d22 d23 d24 d25 d26 d27
  exact hE _ hg
set_option maxRecDepth 20000 in
set_option maxHeartbeats 8000000 in
theorem walk (v0 : Value) (a0 : List EventM) (w : World) (w0 : RdEventsB w v0 a0) :
    Calls Try.prog 10 #[v0] w fun e w' => e = .returned (.bool true) ∧ Kp w w' := by
  have HL := hid (show RdL CeEvent 6 w v0 a0 from w0.1)
  obtain ⟨A, c, rfl, hlc⟩ := w0.1.form
  clear w0
  go_enter Try.func10, Try.ntmps10
  go_wp2_with fail
  refine (events_any _ a0 _ HL.out).mono ?_
  rintro e w1 ⟨⟨v1, rfl, h1⟩, hk1⟩
  have HOK := hid (eventsM_ok a0)
  have HML := hid (eventsM_len a0)
  generalize eventsM a0 = M at h1 HOK HML
  obtain ⟨A0, c0, rfl, hc0⟩ := h1.rd.form
  have H1 := hid h1.rd
  go_wp2_with fail
  refine (played_any _ M _ H1.out HOK.out HML.out).mono ?_
  rintro e w2 ⟨⟨vs, va, rfl, h2, h3⟩, hk2⟩
  have HG := hid (all_good HML.out)
  have HRT := hid (round_at M st0)
  have HTL := hid (Nat.le_trans (all_le M st0) HML.out)
  have HTM := hid (all_le M st0)
  have HEV := hid (H1.out.kp CeEvent.kp hk2)
  generalize st0 :: statesM st0 M = L at HG HRT h2
  generalize allM st0 M = T at HRT HTL HTM h3
  obtain ⟨As, cs, rfl, hLc⟩ := h2.rd.form
  obtain ⟨At, ct, rfl, hTc⟩ := h3.rd.form
  have HS := hid h2; have HTS := hid h3; have HK := hid (hk1.trans hk2)
  clear h1 h2 h3 hk1 hk2 hLc hTc hc0 hlc HL H1 HOK
  go_wp2
  go_loopw [6] (fun i wr => ∃ k : Nat, k ≤ T.length ∧ i = .int .i64 (k : Int) ∧ Kp w2 wr) (fun i _ => T.length - (intOf i).toNat)
  case atStart => exact ⟨0, by omega, rfl, Kp.refl _⟩
  case round =>
    obtain ⟨k, hk, rfl, hkp⟩ := hrel
    have HKR := hid hkp
    by_cases hlt : k < T.length
    · have i1 : (k : Int) < (T.length : Int) := by omega
      have i5 : (k : Int) < (M.length : Int) := by have := HTM.out; omega
      have HWK := hid (wrap_up (n := k) (by have := HTL.out; omega))
      obtain ⟨Tk, hTk⟩ : ∃ Tk, T[k]? = some Tk := ⟨_, List.getElem?_eq_getElem hlt⟩
      obtain ⟨R, e, hR, he, hen, hTe, _⟩ := HRT.out k Tk hTk
      obtain ⟨ev, eo, rfl, hev, lvv, e0, e1, e2, e3, e4, e5, _⟩ := at_event (HEV.out.kp CeEvent.kp hkp) he
      by_cases h5 : e.kind = 5
      · have t5 : (e.kind != 5) = false := by simp [h5]
        obtain ⟨hG, hT0, hgr⟩ := HG.out R (List.mem_of_getElem? hR)
        have HGR := hid hgr
        obtain ⟨f, r, hf⟩ : ∃ f r, R.fr = f :: r := by
          have hne := (hG.runs hen).ne
          cases hp : R.fr with
          | nil => exact absurd hp hne
          | cons f r => exact ⟨f, r, rfl⟩
        obtain ⟨b, off, rfl, hb, fv, pv, q0, q1, q2, q3, q4, q5, hso⟩ := at_sts (HS.out.kp hkp) hR
        have HSO := hid hso
        have hfr := hso.1
        rw [hf] at hfr
        obtain ⟨g, cF, dF, rfl, _, _, hgl, x0, x1, x2, x3, x4, _, xo, xk, _⟩ := hfr.top
        obtain ⟨AD, cD, rfl⟩ := (OwnI.rd xo (by have := xk.2.2.2.2.2; omega) xk.2.2.2.2.1).form
        have i6 : (k : Int) < (L.length : Int) := by have := (List.getElem?_eq_some_iff.1 hR).1; omega
        obtain ⟨B1, cP, rfl, _⟩ := (PnRow.rd hso.2.1).form
        rw [List.length_reverse] at q1 HSO
        have HN := hid (show r.length ≤ 30 by have := hgr.fl; rw [hf] at this; simp at this; omega)
        have HTE := hid (show recB f R.pn = false → Tk = [⟨6, 0, 0, zV⟩] from fun hb => hTe.trans (rec_no h5 hf hT0 hb))
        have HTY := hid (fun (q : PanicM) (s : List PanicM) (hq : R.pn = q :: s) (hb : recB f (q :: s) = true) => hTe.trans (rec_yes h5 hf hT0 hq hb))
        obtain ⟨b2, off2, rfl, hb2, tv, c0', htd⟩ := at_tds (HTS.out.kp hkp) hTk
        have HTD := hid htd
        obtain ⟨n1, hn1⟩ : ∃ n1, n1 = r.length := ⟨_, rfl⟩
        obtain ⟨nf, hnf⟩ : ∃ nf, nf = r.length + 1 := ⟨_, rfl⟩
        rw [← hn1] at x0 x1 x2 x3 x4
        rw [← hnf] at q0
        have j1 : IntKind.i64.wrap ((nf : Int) - 1) = (n1 : Int) := by rw [IntKind.wrap_i64]; have := HN.out; omega
        have j2 : (n1 : Int) < (nf : Int) := by omega
        have j3 : (1 : Int) ≤ (nf : Int) := by omega
        have HB2 := hid hb2; have X0 := hid c0'; have X1 := hid x1; have X2 := hid x2; have HGL := hid hgl
        rw [← hnf] at HSO
        clear xo xk hkp hk hTk hR he hen hTe h5 hf hG hT0 hgr hso hfr htd hn1 hnf HG HRT HEV HS
        rcases hpn : R.pn with _ | ⟨q, s⟩
        · rw [hpn] at q1
          have HTN := hid (HTE.out (by rw [hpn]; rfl))
          clear hpn HTE HTY
          obtain rfl := HTN.out
          go_upto_region 12 with fail
          have hz := blk_old (blk_new wr (Obj.cells #[.slice (some ⟨g, 0, none⟩) nf cF, .slice B1 0 cP, .int .i64 R.next, .int .i64 R.ser, .int .i64 R.en, .int .i64 R.stat] 36)) (Obj.cells #[.int .i64 f.id, .int .i64 f.mark, .int .i64 f.panic, .int .i64 f.phase, .slice AD f.defers.length cD] 44)
          have hz2 := blk_new2 wr (Obj.cells #[.slice (some ⟨g, 0, none⟩) nf cF, .slice B1 0 cP, .int .i64 R.next, .int .i64 R.ser, .int .i64 R.en, .int .i64 R.stat] 36) (Obj.cells #[.int .i64 f.id, .int .i64 f.mark, .int .i64 f.panic, .int .i64 f.phase, .slice AD f.defers.length cD] 44)
          have HKA := hid (show Kp wr ((wr.alloc (Obj.cells #[.slice (some ⟨g, 0, none⟩) nf cF, .slice B1 0 cP, .int .i64 R.next, .int .i64 R.ser, .int .i64 R.en, .int .i64 R.stat] 36)).alloc (Obj.cells #[.int .i64 f.id, .int .i64 f.mark, .int .i64 f.panic, .int .i64 f.phase, .slice AD f.defers.length cD] 44)) from ((Kp.refl wr).alloc _).alloc _)
          obtain ⟨bf, hbf⟩ : ∃ bf, wr.heap.size + 1 = bf := ⟨_, rfl⟩
          rw [hbf] at hz2 ⊢
          clear hbf
          obtain ⟨bs, hbs⟩ : ∃ bs, wr.heap.size = bs := ⟨_, rfl⟩
          rw [hbs] at hz ⊢
          clear hbs
          generalize ((wr.alloc (Obj.cells #[.slice (some ⟨g, 0, none⟩) nf cF, .slice B1 0 cP, .int .i64 R.next, .int .i64 R.ser, .int .i64 R.en, .int .i64 R.stat] 36)).alloc (Obj.cells #[.int .i64 f.id, .int .i64 f.mark, .int .i64 f.panic, .int .i64 f.phase, .slice AD f.defers.length cD] 44)) = W at hz hz2 HKA ⊢
          have HZ := hid hz; have HZ2 := hid hz2
          have Z1 := hid (blk_cell (o := 1) hz rfl); have F1 := hid (blk_cell (o := 1) hz2 rfl); have F2 := hid (blk_cell (o := 2) hz2 rfl)
          clear hz hz2 q0 q1 q2 q3 q4 q5 x0 x1 x2 x3 x4 e0 e1 e2 e3 e4 e5
          go_cut [10] from 21 to 113 (fun m wx => m = .bool false ∧ Kp W wx)
          case first =>
            by_cases hm : f.mark = 2
            · have t2 : (f.mark == 2) = true := by simp [hm]
              clear hm
              refine dir12_nilyes B1 bs bf cP f.mark f.panic (blk_lt HZ.out) (blk_lt HZ2.out) Z1.out F1.out t2 (fun u hg => ?_)
              go_wp2_with fail
              go_meet
              exact ⟨rfl, by assumption⟩
            · have t2 : (f.mark == 2) = false := by simp [hm]
              clear hm
              refine dir12_nilnot B1 bs bf cP f.mark f.panic (blk_lt HZ.out) (blk_lt HZ2.out) Z1.out F1.out t2 (fun u hg => ?_)
              go_wp2_with fail
              go_meet
              exact ⟨rfl, by assumption⟩
          case rest =>
            obtain ⟨rfl, hkc⟩ := hcut
            have HKC := hid (HKA.out.trans hkc)
            clear hkc
            obtain ⟨A4, c4, rfl, _⟩ := HTD.out.len
            obtain ⟨tb, tf, rfl, htb, A5, c5, y0, y1, y2, y3, y4, y5, y6, hok⟩ := at_td (HTD.out.kp HKC.out) (i := 0) rfl
            simp only [Nat.zero_mul, Nat.add_zero] at y0 y1 y2 y3 y4 y5 y6
            have Y0 := hid y0; have Y3 := hid y3; have Y4 := hid y4; have Y5 := hid y5; have Y6 := hid y6; have HTB := hid htb; have HOKT := hid hok
            have X0c := hid (cell_kp HKC.out HB2.out X0.out); have HB2c := hid (Nat.lt_of_lt_of_le HB2.out HKC.out.le)
            clear y0 y1 y2 y3 y4 y5 y6 htb hok
            go_upto_region 13 with fail
            refine dir13_no bs b2 off2 k T.length ct tb tf c4 HB2c.out X0c.out HTB.out Y0.out i1 (-1) (fun u hg => ?_)
            go_wp2
            exact round_up HWK.out hlt (HKR.out.trans (HKC.out.trans (by assumption)))
        · rw [hpn] at q1
          have hq : R.pn.reverse[s.length]? = some q := by rw [hpn]; simp
          obtain ⟨pb, po, rfl, hpb, A2, c2, z0, z1, z2, z3, z4, z5, z6, hokp⟩ := at_pn HSO.out.2.1 hq
          obtain ⟨m1, hm1⟩ : ∃ m1, m1 = s.length := ⟨_, rfl⟩
          obtain ⟨mp, hmp⟩ : ∃ mp, mp = (q :: s).length := ⟨_, rfl⟩
          have hmp2 : mp = m1 + 1 := by rw [hmp, hm1]; rfl
          have hgl : R.pn.length = mp := by rw [hpn, hmp]
          rw [← hm1] at z0 z1 z2 z3 z4 z5 z6
          rw [← hmp] at q1
          have j4 : IntKind.i64.wrap ((mp : Int) - 1) = (m1 : Int) := by rw [IntKind.wrap_i64]; have := HGR.out.pl; omega
          have j5 : (m1 : Int) < (mp : Int) := by omega
          have j6 : (1 : Int) ≤ (mp : Int) := by omega
          have t6 : decide ((0 : Int) ≤ (m1 : Int)) = true := decide_eq_true (by omega)
          have HPB := hid hpb; have P0 := hid z0; have P1 := hid z1; have P2 := hid z2; have P3 := hid z3; have P4 := hid z4; have P5 := hid z5; have HOKP := hid hokp; have HPN := hid hpn
          clear hq hpb z0 z1 z2 z3 z4 z5 z6 hokp hpn hm1 hmp hmp2 hgl HSO
          go_upto_region 12 with fail
          have hz := blk_old (blk_new wr (Obj.cells #[.slice (some ⟨g, 0, none⟩) nf cF, .slice (some ⟨pb, po, none⟩) mp cP, .int .i64 R.next, .int .i64 R.ser, .int .i64 R.en, .int .i64 R.stat] 36)) (Obj.cells #[.int .i64 f.id, .int .i64 f.mark, .int .i64 f.panic, .int .i64 f.phase, .slice AD f.defers.length cD] 44)
          have hz2 := blk_new2 wr (Obj.cells #[.slice (some ⟨g, 0, none⟩) nf cF, .slice (some ⟨pb, po, none⟩) mp cP, .int .i64 R.next, .int .i64 R.ser, .int .i64 R.en, .int .i64 R.stat] 36) (Obj.cells #[.int .i64 f.id, .int .i64 f.mark, .int .i64 f.panic, .int .i64 f.phase, .slice AD f.defers.length cD] 44)
          have HKA := hid (show Kp wr ((wr.alloc (Obj.cells #[.slice (some ⟨g, 0, none⟩) nf cF, .slice (some ⟨pb, po, none⟩) mp cP, .int .i64 R.next, .int .i64 R.ser, .int .i64 R.en, .int .i64 R.stat] 36)).alloc (Obj.cells #[.int .i64 f.id, .int .i64 f.mark, .int .i64 f.panic, .int .i64 f.phase, .slice AD f.defers.length cD] 44)) from ((Kp.refl wr).alloc _).alloc _)
          obtain ⟨bf, hbf⟩ : ∃ bf, wr.heap.size + 1 = bf := ⟨_, rfl⟩
          rw [hbf] at hz2 ⊢
          clear hbf
          obtain ⟨bs, hbs⟩ : ∃ bs, wr.heap.size = bs := ⟨_, rfl⟩
          rw [hbs] at hz ⊢
          clear hbs
          generalize ((wr.alloc (Obj.cells #[.slice (some ⟨g, 0, none⟩) nf cF, .slice (some ⟨pb, po, none⟩) mp cP, .int .i64 R.next, .int .i64 R.ser, .int .i64 R.en, .int .i64 R.stat] 36)).alloc (Obj.cells #[.int .i64 f.id, .int .i64 f.mark, .int .i64 f.panic, .int .i64 f.phase, .slice AD f.defers.length cD] 44)) = W at hz hz2 HKA ⊢
          have HZ := hid hz; have HZ2 := hid hz2
          have Z1 := hid (blk_cell (o := 1) hz rfl); have F1 := hid (blk_cell (o := 1) hz2 rfl); have F2 := hid (blk_cell (o := 2) hz2 rfl)
          clear hz hz2 q0 q1 q2 q3 q4 q5 x0 x1 x2 x3 x4 e0 e1 e2 e3 e4 e5
          go_cut [10] from 21 to 113 (fun m wx => m = .bool (recB f (q :: s)) ∧ Kp W wx)
          case first =>
            by_cases hm : f.mark = 2
            · have t2 : (f.mark == 2) = true := by simp [hm]
              have HM := hid hm
              clear hm
              by_cases hs : q.serial = f.panic
              · have ts : (q.serial == f.panic) = true := by simp [hs]
                have HSE := hid hs
                clear hs
                cases hr : q.rcd
                · have P5b := hid (show W.cell? ⟨pb, po + m1 * 7 + 5, none⟩ = some (.bool false) by have := cell_kp HKA.out HPB.out P5.out; rwa [hr] at this)
                  have HR := hid hr
                  clear hr
                  refine dir12_false bs bf pb po mp m1 cP f.mark f.panic q.serial (blk_lt HZ.out) (blk_lt HZ2.out) (Nat.lt_of_lt_of_le HPB.out HKA.out.le) Z1.out F1.out F2.out t2 (cell_kp HKA.out HPB.out P0.out) t6 (by omega) j5 ts P5b.out (fun u hg => ?_)
                  go_wp2_with fail
                  go_meet
                  exact ⟨by show _ = Value.bool (recB f (q :: s)); unfold recB; simp [HM.out, HSE.out, HR.out], by assumption⟩
                · have P5b := hid (show W.cell? ⟨pb, po + m1 * 7 + 5, none⟩ = some (.bool true) by have := cell_kp HKA.out HPB.out P5.out; rwa [hr] at this)
                  have HR := hid hr
                  clear hr
                  refine dir12_true bs bf pb po mp m1 cP f.mark f.panic q.serial (blk_lt HZ.out) (blk_lt HZ2.out) (Nat.lt_of_lt_of_le HPB.out HKA.out.le) Z1.out F1.out F2.out t2 (cell_kp HKA.out HPB.out P0.out) t6 (by omega) j5 ts P5b.out (fun u hg => ?_)
                  go_wp2_with fail
                  go_meet
                  exact ⟨by show _ = Value.bool (recB f (q :: s)); unfold recB; simp [HM.out, HSE.out, HR.out], by assumption⟩
              · have ts : (q.serial == f.panic) = false := by simp [hs]
                have HSE := hid hs
                clear hs
                refine dir12_other bs bf pb po mp m1 cP f.mark f.panic q.serial (blk_lt HZ.out) (blk_lt HZ2.out) (Nat.lt_of_lt_of_le HPB.out HKA.out.le) Z1.out F1.out F2.out t2 (cell_kp HKA.out HPB.out P0.out) t6 (by omega) j5 ts (fun u hg => ?_)
                go_wp2_with fail
                go_meet
                exact ⟨by show _ = Value.bool (recB f (q :: s)); unfold recB; simp [HM.out, HSE.out], by assumption⟩
            · have t2 : (f.mark == 2) = false := by simp [hm]
              have HM := hid hm
              clear hm
              refine dir12_not bs bf pb po mp m1 cP f.mark f.panic q.serial (blk_lt HZ.out) (blk_lt HZ2.out) (Nat.lt_of_lt_of_le HPB.out HKA.out.le) Z1.out F1.out F2.out t2 (fun u hg => ?_)
              go_wp2_with fail
              go_meet
              exact ⟨by show _ = Value.bool (recB f (q :: s)); unfold recB; simp [HM.out], by assumption⟩
          case rest =>
            obtain ⟨rfl, hkc⟩ := hcut
            have HKC := hid (HKA.out.trans hkc)
            have HKC1 := hid hkc
            clear hkc
            cases hrb : recB f (q :: s)
            · obtain rfl := HTE.out (by rw [HPN.out]; exact hrb)
              clear hrb HTE HTY
              obtain ⟨A4, c4, rfl, _⟩ := HTD.out.len
              obtain ⟨tb, tf, rfl, htb, A5, c5, y0, y1, y2, y3, y4, y5, y6, hok⟩ := at_td (HTD.out.kp HKC.out) (i := 0) rfl
              simp only [Nat.zero_mul, Nat.add_zero] at y0 y1 y2 y3 y4 y5 y6
              have Y0 := hid y0; have Y3 := hid y3; have Y4 := hid y4; have Y5 := hid y5; have Y6 := hid y6; have HTB := hid htb; have HOKT := hid hok
              have X0c := hid (cell_kp HKC.out HB2.out X0.out); have HB2c := hid (Nat.lt_of_lt_of_le HB2.out HKC.out.le)
              clear y0 y1 y2 y3 y4 y5 y6 htb hok
              go_upto_region 13 with fail
              refine dir13_no bs b2 off2 k T.length ct tb tf c4 HB2c.out X0c.out HTB.out Y0.out i1 (m1 : Int) (fun u hg => ?_)
              go_wp2
              exact round_up HWK.out hlt (HKR.out.trans (HKC.out.trans (by assumption)))
            · obtain rfl := HTY.out q s HPN.out hrb
              clear hrb HTE HTY
              obtain ⟨A4, c4, rfl, _⟩ := HTD.out.len
              obtain ⟨tb, tf, rfl, htb, A5, c5, y0, y1, y2, y3, y4, y5, y6, hok⟩ := at_td (HTD.out.kp HKC.out) (i := 0) rfl
              simp only [Nat.zero_mul, Nat.add_zero] at y0 y3 y4 y5 y6
              rw [HOKP.out.2.2.2.2.2] at y3 y4 y5
              have Y0 := hid y0; have Y3 := hid y3; have Y4 := hid y4; have Y5 := hid y5; have Y6 := hid y6; have HTB := hid htb; have HOKT := hid hok
              have X0c := hid (cell_kp HKC.out HB2.out X0.out); have HB2c := hid (Nat.lt_of_lt_of_le HB2.out HKC.out.le)
              clear y0 y1 y2 y3 y4 y5 y6 htb hok
              go_upto_region 13 with fail
              refine dir13_yes bs b2 off2 k T.length ct tb tf c4 HB2c.out X0c.out HTB.out Y0.out i1 pb po mp m1 cP c5 c2 A5 A2 q.val (Nat.lt_of_lt_of_le (blk_lt HZ.out) HKC1.out.le) (Nat.lt_of_lt_of_le HPB.out HKC.out.le) (cell_kp HKC1.out (blk_lt HZ.out) Z1.out) j5 HOKP.out.2.1 HOKP.out.2.2.1 HOKP.out.2.2.2.1 HOKP.out.2.2.2.2.1 Y3.out Y4.out Y5.out Y6.out (cell_kp HKC.out HPB.out P1.out) (cell_kp HKC.out HPB.out P2.out) (cell_kp HKC.out HPB.out P3.out) (cell_kp HKC.out HPB.out P4.out) (fun u hg => ?_)
              go_wp2
              exact round_up HWK.out hlt (HKR.out.trans (HKC.out.trans (by assumption)))
      · have t5 : (e.kind != 5) = true := by simp [h5]
        clear hkp hk hTk hR he hen hTe h5
        go_wp2
        exact round_up HWK.out hlt HKR.out
    · have i1 : ¬ (k : Int) < (T.length : Int) := by omega
      clear hk hkp
      go_wp2
      exact bodyPost_ret (v := .bool true) (by simp [results, Try.results10, go_sem]) rfl ⟨rfl, HK.out.trans HKR.out⟩
/-! ### The row's step (the guide's frame, written by program) -/
set_option maxRecDepth 100000 in
theorem lifted (os : Os) (started : os.Started) (H : Type) (enc : TypeId × Value → H) :
    ReturnsInHanded {} Try.checked os 10 .any (Rows.panicsDirectSpec.pre6 enc Try.prog Try.f10 Rows.panicsDirectRow.domain false) (Rows.panicsDirectSpec.post enc Try.prog Try.f10 false true false false) := by
  refine returnsInHanded_of_change_sized (C := Try.checked) own started (by kernel_rfl) Try.func10
    (ChangeSpec.witness6 (enc := enc) (C := Try.checked) false ⟨#[], #[.slice none 0 0], []⟩ 8 (by kernel_rfl) (by kernel_rfl) (by kernel_rfl) (by kernel_rfl)) ?_
  intro W base args ds gs before hval0 hW _ hsz0 _
  have hsz : (DataW.weightsEach Try.prog (Try.f10.params.toList ++ Rows.panicsDirectSpec.plain.varTypes Try.prog) (ds ++ gs)).all (· ≤ reachBytes) = true := hsz0
  clear hsz0
  have hval : ∀ (j : Nat) t v, Try.f10.params[j]? = some t → args[j]? = some v → Value.okWide Try.prog W .any base t v := hval0
  have hW' := hW
  obtain ⟨p, q, hA0, hV, rfl, hfz, hnd⟩ := hW
  have hA : DataW.TrodAll enc Try.prog W 0 (fun _ => true) true Try.f10.params.toList args.toList ds p := hA0
  rw [Try.params10] at hA hval hsz
  obtain ⟨v0, vs0, d0, ds0, p0, q0, hargs, rfl, rfl, h0, r0⟩ := trodAll_cons hA
  obtain ⟨rfl, rfl, rfl⟩ := trodAll_nil r0
  obtain rfl : args = #[v0] := by cases args; simp_all
  obtain ⟨rfl, rfl⟩ := trodVars_none hV
  have k0 := h0
  have lt0 : ∀ x ∈ p0, x.block < W.heap.size := by obtain ⟨m, hm⟩ := k0; exact DataW.trod_lt m _ _ _ hm
  have hz0 : ∀ n ∈ DataW.weights Try.prog 22 d0, n ≤ reachBytes := fun n hn => by
    have := List.all_eq_true.1 hsz _ (DataW.weights_mem_each (j := 0) rfl rfl n hn)
    simpa using this
  obtain ⟨a0, w0⟩ := open_events (hval 0 22 v0 rfl rfl) h0 hz0
  clear hA0 hval0
  simp only [List.append_nil] at hW'
  refine (walk v0 a0 W w0).mono fun e W' ⟨he, bel⟩ => ?_
  subst he
  exact ⟨_, rfl, _, _, _, [], _, [], hW', trodAll_mk1 (shut_bool Try.underlying4 _), (trodAll_cons_mk (Below.trod laidOut (by kernel_rfl) (of_decide_eq_true (by kernel_rfl)) k0 bel lt0) trodAll_mk0), rfl, Below.frame bel _, fun h => by cases h⟩

theorem over : Rows.panicsDirectRow.holds Try.pinned (OpenSpec.ofChange Rows.panicsDirectSpec) :=
  OpenClaim.holds_of_wide 10 Try.f10 rfl rfl rfl rfl rfl rfl rfl ⟨rfl, rfl, rfl, rfl, rfl⟩ rfl rfl rfl rfl rfl (by kernel_rfl) Try.func10 (by kernel_rfl)
    (of_decide_eq_true (by kernel_rfl)) (by unfold Func.isWrapper; rw [if_neg (of_decide_eq_false (by kernel_rfl))]; exact ⟨rfl, rfl⟩)
    (fun os started H enc _ => lifted os started H enc)

/-- THE STATEMENT. -/
theorem proved : Rows.PanicsDirectSaid := over
#print axioms proved

end Go.Proofs.Ytfholconiofgoaa.panicsDirect
