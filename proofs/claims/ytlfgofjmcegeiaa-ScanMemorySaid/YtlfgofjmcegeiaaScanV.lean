/-
  Package scan: whole. Condition: the reach of a text.
-/
import Derived.Test.YtlfgofjmcegeiaaScanU
namespace Go.Proofs.Ytlfgofjmcegeiaa
open Go.RowKit
set_option linter.unusedVariables false
set_option linter.unusedSimpArgs false

set_option maxRecDepth 20000 in
set_option maxHeartbeats 4000000 in
theorem who_a {W : World} {Q : Exit → Act → World → Prop} {s0 s2 s4 s5 s6 s7 s8 s9 s10 s11 s12 s13 s14 s15 s16 s17 s18 s19 s20 s21 s22 s23 s24 s25 s26 s27 s28 s29 s30 s31 s32 s33 s34 s35 s36 s37 s38 s39 s40 s41 s42 s43 s44 s45 s46 s47 s48 s49 s50 s51 s52 s53 s54 s55 s56 : Value} (b off n cc tb : Nat) (xk tk : Int) (xt tt : ByteArray) (hb : b < W.heap.size) (htb : tb < W.heap.size) (X0 : W.cell? ⟨b, off, none⟩ = some (.int .i64 xk)) (X1 : W.cell? ⟨b, off + 1, none⟩ = some (.string xt)) (T0 : W.cell? ⟨tb, 0, none⟩ = some (.int .i64 tk)) (T1 : W.cell? ⟨tb, 1, none⟩ = some (.string tt)) (i0 : 0 < n) (i1 : (0 : Int) < (n : Int)) (q1 : (xk == tk) = false)
    (hE : ∀ u, Kp W u → Q .normal { tmps := #[s0, .pointer (some ⟨tb, 0, none⟩), .bool false, .slice (some ⟨b, off, none⟩) n cc, s4, s5, s6, s7, s8, s9, s10, s11, s12, s13, s14, s15, s16, s17, s18, s19, s20, s21, s22, s23, s24, s25, s26, s27, s28, s29, .slice (some ⟨b, off, none⟩) n cc, .pointer (some ⟨b, off, none⟩), .pointer (some ⟨b, off, none⟩), .int .i64 xk, .pointer (some ⟨tb, 0, none⟩), .int .i64 tk, .bool false, .bool false, undef, undef, undef, undef, undef, undef, undef, .bool false, .bool false, undef, undef, undef, undef, undef, undef, undef, undef, undef, .bool false], defers := [] } u) :
    (Code.region 6 (regArr Try.f42 6) true).wp Try.prog Q { tmps := #[s0, .pointer (some ⟨tb, 0, none⟩), s2, .slice (some ⟨b, off, none⟩) n cc, s4, s5, s6, s7, s8, s9, s10, s11, s12, s13, s14, s15, s16, s17, s18, s19, s20, s21, s22, s23, s24, s25, s26, s27, s28, s29, s30, s31, s32, s33, s34, s35, s36, s37, s38, s39, s40, s41, s42, s43, s44, s45, s46, s47, s48, s49, s50, s51, s52, s53, s54, s55, s56], defers := [] } W := by
  simp only [regArr, Try.f42, Option.map_some, Option.getD_some, regOf, if_true, if_false, List.append_nil, List.nil_append, List.toList_toArray, Nat.reduceEqDiff, reduceIte]
  refine wp_region_kp [[], [0], [1], [2], [], [4], [3, 5], [6], [7], [7, 8], [7, 9], [7, 10], [7], [7, 12], [7, 11, 13], [7, 14], [15], [16], [16, 17], [16, 18], [16, 19], [20], [20, 21], [20, 22], [20, 23], [16, 20, 24], [16, 25], [26]] (fun u => Kp W u)
    [fun (y : Value) (u : World) => y = (.slice (some ⟨b, off, none⟩) n cc : Value),
     fun (y : Value) (u : World) => y = (.pointer (some ⟨b, off, none⟩) : Value),
     fun (y : Value) (u : World) => y = (.pointer (some ⟨b, off, none⟩) : Value),
     fun (y : Value) (u : World) => y = (.int .i64 xk : Value),
     fun (y : Value) (u : World) => y = (.pointer (some ⟨tb, 0, none⟩) : Value),
     fun (y : Value) (u : World) => y = (.int .i64 tk : Value),
     fun (y : Value) (u : World) => y = (.bool false : Value),
     fun (y : Value) (u : World) => y = (.bool false : Value),
     fun (y : Value) (u : World) => y = (undef : Value),
     fun (y : Value) (u : World) => y = (undef : Value),
     fun (y : Value) (u : World) => y = (undef : Value),
     fun (y : Value) (u : World) => y = (undef : Value),
     fun (y : Value) (u : World) => y = (undef : Value),
     fun (y : Value) (u : World) => y = (undef : Value),
     fun (y : Value) (u : World) => y = (undef : Value),
     fun (y : Value) (u : World) => y = (.bool false : Value),
     fun (y : Value) (u : World) => y = (.bool false : Value),
     fun (y : Value) (u : World) => y = (undef : Value),
     fun (y : Value) (u : World) => y = (undef : Value),
     fun (y : Value) (u : World) => y = (undef : Value),
     fun (y : Value) (u : World) => y = (undef : Value),
     fun (y : Value) (u : World) => y = (undef : Value),
     fun (y : Value) (u : World) => y = (undef : Value),
     fun (y : Value) (u : World) => y = (undef : Value),
     fun (y : Value) (u : World) => y = (undef : Value),
     fun (y : Value) (u : World) => y = (undef : Value),
     fun (y : Value) (u : World) => y = (.bool false : Value),
     fun (y : Value) (u : World) => y = (.bool false : Value)]
    (by kernel_rfl) (by kernel_rfl) (by kernel_rfl) (by kernel_rfl) ((Kp.refl _).drew) (fun _ _ hk h => h.trans hk) ⟨fun _ _ _ _ h => h, fun _ _ _ _ h => h, fun _ _ _ _ h => h, fun _ _ _ _ h => h, fun _ _ _ _ h => h, fun _ _ _ _ h => h, fun _ _ _ _ h => h, fun _ _ _ _ h => h, fun _ _ _ _ h => h, fun _ _ _ _ h => h, fun _ _ _ _ h => h, fun _ _ _ _ h => h, fun _ _ _ _ h => h, fun _ _ _ _ h => h, fun _ _ _ _ h => h, fun _ _ _ _ h => h, fun _ _ _ _ h => h, fun _ _ _ _ h => h, fun _ _ _ _ h => h, fun _ _ _ _ h => h, fun _ _ _ _ h => h, fun _ _ _ _ h => h, fun _ _ _ _ h => h, fun _ _ _ _ h => h, fun _ _ _ _ h => h, fun _ _ _ _ h => h, fun _ _ _ _ h => h, fun _ _ _ _ h => h, trivial⟩ ⟨?sb0, ?sb1, ?sb2, ?sb3, ?sb4, ?sb5, ?sb6, ?sb7, ?sb8, ?sb9, ?sb10, ?sb11, ?sb12, ?sb13, ?sb14, ?sb15, ?sb16, ?sb17, ?sb18, ?sb19, ?sb20, ?sb21, ?sb22, ?sb23, ?sb24, ?sb25, ?sb26, ?sb27, trivial⟩ ?hEb
  case sb0 =>
    refine OpStepK.by_ ?_
    intro a x u ht hs hg hd K hK
    clear hd
    refine OpGoal.live (wanted_free (by kernel_rfl)) ?_
    have e3 : a.eval (Operand.tmp 3) = (.slice (some ⟨b, off, none⟩) n cc : Value) := (ht 3).trans (by kernel_rfl)
    clear ht hs
    refine BigFrame.wp_move _ rfl ?_
    exact hK.out _ _ (Kp.refl _) e3
  case sb1 =>
    refine OpStepK.by_ ?_
    intro a x u ht hs hg hd K hK
    have d0 : (x 0) = .slice (some ⟨b, off, none⟩) n cc := And.left hd
    clear hd
    refine OpGoal.live (wanted_free (by kernel_rfl)) ?_
    have e30 : a.tmps[30]? = some (.slice (some ⟨b, off, none⟩) n cc : Value) := (hs 30).trans (Eq.trans (b := some (x 0)) (by kernel_rfl) (by rw [d0]))
    clear d0
    clear ht hs
    go_simp
    exact hK.out _ _ (Kp.refl _) rfl
  case sb2 =>
    refine OpStepK.by_ ?_
    intro a x u ht hs hg hd K hK
    have d1 : (x 1) = .pointer (some ⟨b, off, none⟩) := And.left hd
    clear hd
    refine OpGoal.live (wanted_free (by kernel_rfl)) ?_
    have e31 : a.tmps[31]? = some (.pointer (some ⟨b, off, none⟩) : Value) := (hs 31).trans (Eq.trans (b := some (x 1)) (by kernel_rfl) (by rw [d1]))
    clear d1
    clear ht hs
    go_simp
    exact hK.out _ _ (Kp.refl _) rfl
  case sb3 =>
    refine OpStepK.by_ ?_
    intro a x u ht hs hg hd K hK
    have d2 : (x 2) = .pointer (some ⟨b, off, none⟩) := And.left hd
    clear hd
    refine OpGoal.live (wanted_free (by kernel_rfl)) ?_
    have e32 : a.tmps[32]? = some (.pointer (some ⟨b, off, none⟩) : Value) := (hs 32).trans (Eq.trans (b := some (x 2)) (by kernel_rfl) (by rw [d2]))
    clear d2
    clear ht hs
    have q0 := cell_kp hg hb X0
    go_simp
    exact hK.out _ _ (Kp.refl _) rfl
  case sb4 =>
    refine OpStepK.by_ ?_
    intro a x u ht hs hg hd K hK
    clear hd
    refine OpGoal.live (wanted_free (by kernel_rfl)) ?_
    have e1 : a.tmps[1]? = some (.pointer (some ⟨tb, 0, none⟩) : Value) := (hs 1).trans (by kernel_rfl)
    clear ht hs
    go_simp
    exact hK.out _ _ (Kp.refl _) rfl
  case sb5 =>
    refine OpStepK.by_ ?_
    intro a x u ht hs hg hd K hK
    have d4 : (x 4) = .pointer (some ⟨tb, 0, none⟩) := And.left hd
    clear hd
    refine OpGoal.live (wanted_free (by kernel_rfl)) ?_
    have e34 : a.tmps[34]? = some (.pointer (some ⟨tb, 0, none⟩) : Value) := (hs 34).trans (Eq.trans (b := some (x 4)) (by kernel_rfl) (by rw [d4]))
    clear d4
    clear ht hs
    have q0 := cell_kp hg htb T0
    go_simp
    exact hK.out _ _ (Kp.refl _) rfl
  case sb6 =>
    refine OpStepK.by_ ?_
    intro a x u ht hs hg hd K hK
    have d3 : (x 3) = .int .i64 xk := And.left hd
    have d5 : (x 5) = .int .i64 tk := And.left (And.right hd)
    clear hd
    refine OpGoal.live (wanted_free (by kernel_rfl)) ?_
    have e33 : a.tmps[33]? = some (.int .i64 xk : Value) := (hs 33).trans (Eq.trans (b := some (x 3)) (by kernel_rfl) (by rw [d3]))
    have e35 : a.tmps[35]? = some (.int .i64 tk : Value) := (hs 35).trans (Eq.trans (b := some (x 5)) (by kernel_rfl) (by rw [d5]))
    clear d3 d5
    clear ht hs
    go_simp
    exact hK.out _ _ (Kp.refl _) rfl
  case sb7 =>
    refine OpStepK.by_ ?_
    intro a x u ht hs hg hd K hK
    have d6 : (x 6) = .bool false := And.left hd
    clear hd
    refine OpGoal.live (wanted_free (by kernel_rfl)) ?_
    have e36 : a.eval (Operand.tmp 36) = (.bool false : Value) := (ht 36).trans (Eq.trans (b := x 6) (by kernel_rfl) d6)
    clear d6
    clear ht hs
    refine BigFrame.wp_move _ rfl ?_
    exact hK.out _ _ (Kp.refl _) e36
  case sb8 =>
    refine OpStepK.by_ ?_
    intro a x u ht hs hg hd K hK
    have d7 : (x 7) = .bool false := And.left hd
    clear hd
    refine OpGoal.dead (wanted_no (j := 7) (d := 37) (b := true) (c := false) (by kernel_rfl) (by kernel_rfl) ((hs 37).trans (Eq.trans (b := some (x 7)) (by kernel_rfl) (by rw [d7]))) (by decide)) ?_
    exact hK.out _ _ (Kp.refl _) rfl
  case sb9 =>
    refine OpStepK.by_ ?_
    intro a x u ht hs hg hd K hK
    have d7 : (x 7) = .bool false := And.left hd
    have d8 : (x 8) = undef := And.left (And.right hd)
    clear hd
    refine OpGoal.dead (wanted_no (j := 7) (d := 37) (b := true) (c := false) (by kernel_rfl) (by kernel_rfl) ((hs 37).trans (Eq.trans (b := some (x 7)) (by kernel_rfl) (by rw [d7]))) (by decide)) ?_
    exact hK.out _ _ (Kp.refl _) rfl
  case sb10 =>
    refine OpStepK.by_ ?_
    intro a x u ht hs hg hd K hK
    have d7 : (x 7) = .bool false := And.left hd
    have d9 : (x 9) = undef := And.left (And.right hd)
    clear hd
    refine OpGoal.dead (wanted_no (j := 7) (d := 37) (b := true) (c := false) (by kernel_rfl) (by kernel_rfl) ((hs 37).trans (Eq.trans (b := some (x 7)) (by kernel_rfl) (by rw [d7]))) (by decide)) ?_
    exact hK.out _ _ (Kp.refl _) rfl
  case sb11 =>
    refine OpStepK.by_ ?_
    intro a x u ht hs hg hd K hK
    have d7 : (x 7) = .bool false := And.left hd
    have d10 : (x 10) = undef := And.left (And.right hd)
    clear hd
    refine OpGoal.dead (wanted_no (j := 7) (d := 37) (b := true) (c := false) (by kernel_rfl) (by kernel_rfl) ((hs 37).trans (Eq.trans (b := some (x 7)) (by kernel_rfl) (by rw [d7]))) (by decide)) ?_
    exact hK.out _ _ (Kp.refl _) rfl
  case sb12 =>
    refine OpStepK.by_ ?_
    intro a x u ht hs hg hd K hK
    have d7 : (x 7) = .bool false := And.left hd
    clear hd
    refine OpGoal.dead (wanted_no (j := 7) (d := 37) (b := true) (c := false) (by kernel_rfl) (by kernel_rfl) ((hs 37).trans (Eq.trans (b := some (x 7)) (by kernel_rfl) (by rw [d7]))) (by decide)) ?_
    exact hK.out _ _ (Kp.refl _) rfl
  case sb13 =>
    refine OpStepK.by_ ?_
    intro a x u ht hs hg hd K hK
    have d7 : (x 7) = .bool false := And.left hd
    have d12 : (x 12) = undef := And.left (And.right hd)
    clear hd
    refine OpGoal.dead (wanted_no (j := 7) (d := 37) (b := true) (c := false) (by kernel_rfl) (by kernel_rfl) ((hs 37).trans (Eq.trans (b := some (x 7)) (by kernel_rfl) (by rw [d7]))) (by decide)) ?_
    exact hK.out _ _ (Kp.refl _) rfl
  case sb14 =>
    refine OpStepK.by_ ?_
    intro a x u ht hs hg hd K hK
    have d7 : (x 7) = .bool false := And.left hd
    have d11 : (x 11) = undef := And.left (And.right hd)
    have d13 : (x 13) = undef := And.left (And.right (And.right hd))
    clear hd
    refine OpGoal.dead (wanted_no (j := 7) (d := 37) (b := true) (c := false) (by kernel_rfl) (by kernel_rfl) ((hs 37).trans (Eq.trans (b := some (x 7)) (by kernel_rfl) (by rw [d7]))) (by decide)) ?_
    exact hK.out _ _ (Kp.refl _) rfl
  case sb15 =>
    refine OpStepK.by_ ?_
    intro a x u ht hs hg hd K hK
    have d7 : (x 7) = .bool false := And.left hd
    have d14 : (x 14) = undef := And.left (And.right hd)
    clear hd
    refine OpGoal.live (wanted_free (by kernel_rfl)) ?_
    have e37 : a.tmps[37]? = some (.bool false : Value) := (hs 37).trans (Eq.trans (b := some (x 7)) (by kernel_rfl) (by rw [d7]))
    have e44 : a.tmps[44]? = some (undef : Value) := (hs 44).trans (Eq.trans (b := some (x 14)) (by kernel_rfl) (by rw [d14]))
    clear d7 d14
    clear ht hs
    go_simp
    exact hK.out _ _ (Kp.refl _) rfl
  case sb16 =>
    refine OpStepK.by_ ?_
    intro a x u ht hs hg hd K hK
    have d15 : (x 15) = .bool false := And.left hd
    clear hd
    refine OpGoal.live (wanted_free (by kernel_rfl)) ?_
    have e45 : a.eval (Operand.tmp 45) = (.bool false : Value) := (ht 45).trans (Eq.trans (b := x 15) (by kernel_rfl) d15)
    clear d15
    clear ht hs
    refine BigFrame.wp_move _ rfl ?_
    exact hK.out _ _ (Kp.refl _) e45
  case sb17 =>
    refine OpStepK.by_ ?_
    intro a x u ht hs hg hd K hK
    have d16 : (x 16) = .bool false := And.left hd
    clear hd
    refine OpGoal.dead (wanted_no (j := 16) (d := 46) (b := true) (c := false) (by kernel_rfl) (by kernel_rfl) ((hs 46).trans (Eq.trans (b := some (x 16)) (by kernel_rfl) (by rw [d16]))) (by decide)) ?_
    exact hK.out _ _ (Kp.refl _) rfl
  case sb18 =>
    refine OpStepK.by_ ?_
    intro a x u ht hs hg hd K hK
    have d16 : (x 16) = .bool false := And.left hd
    have d17 : (x 17) = undef := And.left (And.right hd)
    clear hd
    refine OpGoal.dead (wanted_no (j := 16) (d := 46) (b := true) (c := false) (by kernel_rfl) (by kernel_rfl) ((hs 46).trans (Eq.trans (b := some (x 16)) (by kernel_rfl) (by rw [d16]))) (by decide)) ?_
    exact hK.out _ _ (Kp.refl _) rfl
  case sb19 =>
    refine OpStepK.by_ ?_
    intro a x u ht hs hg hd K hK
    have d16 : (x 16) = .bool false := And.left hd
    have d18 : (x 18) = undef := And.left (And.right hd)
    clear hd
    refine OpGoal.dead (wanted_no (j := 16) (d := 46) (b := true) (c := false) (by kernel_rfl) (by kernel_rfl) ((hs 46).trans (Eq.trans (b := some (x 16)) (by kernel_rfl) (by rw [d16]))) (by decide)) ?_
    exact hK.out _ _ (Kp.refl _) rfl
  case sb20 =>
    refine OpStepK.by_ ?_
    intro a x u ht hs hg hd K hK
    have d16 : (x 16) = .bool false := And.left hd
    have d19 : (x 19) = undef := And.left (And.right hd)
    clear hd
    refine OpGoal.dead (wanted_no (j := 16) (d := 46) (b := true) (c := false) (by kernel_rfl) (by kernel_rfl) ((hs 46).trans (Eq.trans (b := some (x 16)) (by kernel_rfl) (by rw [d16]))) (by decide)) ?_
    exact hK.out _ _ (Kp.refl _) rfl
  case sb21 =>
    refine OpStepK.by_ ?_
    intro a x u ht hs hg hd K hK
    have d20 : (x 20) = undef := And.left hd
    clear hd
    refine OpGoal.dead (wanted_un (j := 20) (d := 50) (b := false) (by kernel_rfl) (by kernel_rfl) ((hs 50).trans (Eq.trans (b := some (x 20)) (by kernel_rfl) (by rw [d20])))) ?_
    exact hK.out _ _ (Kp.refl _) rfl
  case sb22 =>
    refine OpStepK.by_ ?_
    intro a x u ht hs hg hd K hK
    have d20 : (x 20) = undef := And.left hd
    have d21 : (x 21) = undef := And.left (And.right hd)
    clear hd
    refine OpGoal.dead (wanted_un (j := 20) (d := 50) (b := false) (by kernel_rfl) (by kernel_rfl) ((hs 50).trans (Eq.trans (b := some (x 20)) (by kernel_rfl) (by rw [d20])))) ?_
    exact hK.out _ _ (Kp.refl _) rfl
  case sb23 =>
    refine OpStepK.by_ ?_
    intro a x u ht hs hg hd K hK
    have d20 : (x 20) = undef := And.left hd
    have d22 : (x 22) = undef := And.left (And.right hd)
    clear hd
    refine OpGoal.dead (wanted_un (j := 20) (d := 50) (b := false) (by kernel_rfl) (by kernel_rfl) ((hs 50).trans (Eq.trans (b := some (x 20)) (by kernel_rfl) (by rw [d20])))) ?_
    exact hK.out _ _ (Kp.refl _) rfl
  case sb24 =>
    refine OpStepK.by_ ?_
    intro a x u ht hs hg hd K hK
    have d20 : (x 20) = undef := And.left hd
    have d23 : (x 23) = undef := And.left (And.right hd)
    clear hd
    refine OpGoal.dead (wanted_un (j := 20) (d := 50) (b := false) (by kernel_rfl) (by kernel_rfl) ((hs 50).trans (Eq.trans (b := some (x 20)) (by kernel_rfl) (by rw [d20])))) ?_
    exact hK.out _ _ (Kp.refl _) rfl
  case sb25 =>
    refine OpStepK.by_ ?_
    intro a x u ht hs hg hd K hK
    have d16 : (x 16) = .bool false := And.left hd
    have d20 : (x 20) = undef := And.left (And.right hd)
    have d24 : (x 24) = undef := And.left (And.right (And.right hd))
    clear hd
    refine OpGoal.dead (wanted_no (j := 16) (d := 46) (b := true) (c := false) (by kernel_rfl) (by kernel_rfl) ((hs 46).trans (Eq.trans (b := some (x 16)) (by kernel_rfl) (by rw [d16]))) (by decide)) ?_
    exact hK.out _ _ (Kp.refl _) rfl
  case sb26 =>
    refine OpStepK.by_ ?_
    intro a x u ht hs hg hd K hK
    have d16 : (x 16) = .bool false := And.left hd
    have d25 : (x 25) = undef := And.left (And.right hd)
    clear hd
    refine OpGoal.live (wanted_free (by kernel_rfl)) ?_
    have e46 : a.tmps[46]? = some (.bool false : Value) := (hs 46).trans (Eq.trans (b := some (x 16)) (by kernel_rfl) (by rw [d16]))
    have e55 : a.tmps[55]? = some (undef : Value) := (hs 55).trans (Eq.trans (b := some (x 25)) (by kernel_rfl) (by rw [d25]))
    clear d16 d25
    clear ht hs
    go_simp
    exact hK.out _ _ (Kp.refl _) rfl
  case sb27 =>
    refine OpStepK.by_ ?_
    intro a x u ht hs hg hd K hK
    have d26 : (x 26) = .bool false := And.left hd
    clear hd
    refine OpGoal.live (wanted_free (by kernel_rfl)) ?_
    have e56 : a.eval (Operand.tmp 56) = (.bool false : Value) := (ht 56).trans (Eq.trans (b := x 26) (by kernel_rfl) d26)
    clear d26
    clear ht hs
    refine BigFrame.wp_assign _ rfl ?_
    exact hK.out _ _ (Kp.refl _) e56
  intro x u hg he
  have d0 : (x 0) = .slice (some ⟨b, off, none⟩) n cc := And.left he
  have d1 : (x 1) = .pointer (some ⟨b, off, none⟩) := And.left (And.right he)
  have d2 : (x 2) = .pointer (some ⟨b, off, none⟩) := And.left (And.right (And.right he))
  have d3 : (x 3) = .int .i64 xk := And.left (And.right (And.right (And.right he)))
  have d4 : (x 4) = .pointer (some ⟨tb, 0, none⟩) := And.left (And.right (And.right (And.right (And.right he))))
  have d5 : (x 5) = .int .i64 tk := And.left (And.right (And.right (And.right (And.right (And.right he)))))
  have d6 : (x 6) = .bool false := And.left (And.right (And.right (And.right (And.right (And.right (And.right he))))))
  have d7 : (x 7) = .bool false := And.left (And.right (And.right (And.right (And.right (And.right (And.right (And.right he)))))))
  have d8 : (x 8) = undef := And.left (And.right (And.right (And.right (And.right (And.right (And.right (And.right (And.right he))))))))
  have d9 : (x 9) = undef := And.left (And.right (And.right (And.right (And.right (And.right (And.right (And.right (And.right (And.right he)))))))))
  have d10 : (x 10) = undef := And.left (And.right (And.right (And.right (And.right (And.right (And.right (And.right (And.right (And.right (And.right he))))))))))
  have d11 : (x 11) = undef := And.left (And.right (And.right (And.right (And.right (And.right (And.right (And.right (And.right (And.right (And.right (And.right he)))))))))))
  have d12 : (x 12) = undef := And.left (And.right (And.right (And.right (And.right (And.right (And.right (And.right (And.right (And.right (And.right (And.right (And.right he))))))))))))
  have d13 : (x 13) = undef := And.left (And.right (And.right (And.right (And.right (And.right (And.right (And.right (And.right (And.right (And.right (And.right (And.right (And.right he)))))))))))))
  have d14 : (x 14) = undef := And.left (And.right (And.right (And.right (And.right (And.right (And.right (And.right (And.right (And.right (And.right (And.right (And.right (And.right (And.right he))))))))))))))
  have d15 : (x 15) = .bool false := And.left (And.right (And.right (And.right (And.right (And.right (And.right (And.right (And.right (And.right (And.right (And.right (And.right (And.right (And.right (And.right he)))))))))))))))
  have d16 : (x 16) = .bool false := And.left (And.right (And.right (And.right (And.right (And.right (And.right (And.right (And.right (And.right (And.right (And.right (And.right (And.right (And.right (And.right (And.right he))))))))))))))))
  have d17 : (x 17) = undef := And.left (And.right (And.right (And.right (And.right (And.right (And.right (And.right (And.right (And.right (And.right (And.right (And.right (And.right (And.right (And.right (And.right (And.right he)))))))))))))))))
  have d18 : (x 18) = undef := And.left (And.right (And.right (And.right (And.right (And.right (And.right (And.right (And.right (And.right (And.right (And.right (And.right (And.right (And.right (And.right (And.right (And.right (And.right he))))))))))))))))))
  have d19 : (x 19) = undef := And.left (And.right (And.right (And.right (And.right (And.right (And.right (And.right (And.right (And.right (And.right (And.right (And.right (And.right (And.right (And.right (And.right (And.right (And.right (And.right he)))))))))))))))))))
  have d20 : (x 20) = undef := And.left (And.right (And.right (And.right (And.right (And.right (And.right (And.right (And.right (And.right (And.right (And.right (And.right (And.right (And.right (And.right (And.right (And.right (And.right (And.right (And.right he))))))))))))))))))))
  have d21 : (x 21) = undef := And.left (And.right (And.right (And.right (And.right (And.right (And.right (And.right (And.right (And.right (And.right (And.right (And.right (And.right (And.right (And.right (And.right (And.right (And.right (And.right (And.right (And.right he)))))))))))))))))))))
  have d22 : (x 22) = undef := And.left (And.right (And.right (And.right (And.right (And.right (And.right (And.right (And.right (And.right (And.right (And.right (And.right (And.right (And.right (And.right (And.right (And.right (And.right (And.right (And.right (And.right (And.right he))))))))))))))))))))))
  have d23 : (x 23) = undef := And.left (And.right (And.right (And.right (And.right (And.right (And.right (And.right (And.right (And.right (And.right (And.right (And.right (And.right (And.right (And.right (And.right (And.right (And.right (And.right (And.right (And.right (And.right (And.right he)))))))))))))))))))))))
  have d24 : (x 24) = undef := And.left (And.right (And.right (And.right (And.right (And.right (And.right (And.right (And.right (And.right (And.right (And.right (And.right (And.right (And.right (And.right (And.right (And.right (And.right (And.right (And.right (And.right (And.right (And.right (And.right he))))))))))))))))))))))))
  have d25 : (x 25) = undef := And.left (And.right (And.right (And.right (And.right (And.right (And.right (And.right (And.right (And.right (And.right (And.right (And.right (And.right (And.right (And.right (And.right (And.right (And.right (And.right (And.right (And.right (And.right (And.right (And.right (And.right he)))))))))))))))))))))))))
  have d26 : (x 26) = .bool false := And.left (And.right (And.right (And.right (And.right (And.right (And.right (And.right (And.right (And.right (And.right (And.right (And.right (And.right (And.right (And.right (And.right (And.right (And.right (And.right (And.right (And.right (And.right (And.right (And.right (And.right (And.right he))))))))))))))))))))))))))
  have d27 : (x 27) = .bool false := And.left (And.right (And.right (And.right (And.right (And.right (And.right (And.right (And.right (And.right (And.right (And.right (And.right (And.right (And.right (And.right (And.right (And.right (And.right (And.right (And.right (And.right (And.right (And.right (And.right (And.right (And.right (And.right he)))))))))))))))))))))))))))
  clear he
  refine ⟨?_⟩
  simp only [putsFrom, Act.put, List.setIfInBounds_toArray, List.set_cons_zero, List.set_cons_succ, Nat.reduceAdd, d0, d1, d2, d3, d4, d5, d6, d7, d8, d9, d10, d11, d12, d13, d14, d15, d16, d17, d18, d19, d20, d21, d22, d23, d24, d25, d26, d27]
  clear d0 d1 d2 d3 d4 d5 d6 d7 d8 d9 d10 d11 d12 d13 d14 d15 d16 d17 d18 d19 d20 d21 d22 d23 d24 d25 d26 d27
  exact hE _ hg
set_option maxRecDepth 20000 in
set_option maxHeartbeats 4000000 in
theorem who_b {W : World} {Q : Exit → Act → World → Prop} {s0 s2 s4 s5 s6 s7 s8 s9 s10 s11 s12 s13 s14 s15 s16 s17 s18 s19 s20 s21 s22 s23 s24 s25 s26 s27 s28 s29 s30 s31 s32 s33 s34 s35 s36 s37 s38 s39 s40 s41 s42 s43 s44 s45 s46 s47 s48 s49 s50 s51 s52 s53 s54 s55 s56 : Value} (b off n cc tb : Nat) (xk tk : Int) (xt tt : ByteArray) (hb : b < W.heap.size) (htb : tb < W.heap.size) (X0 : W.cell? ⟨b, off, none⟩ = some (.int .i64 xk)) (X1 : W.cell? ⟨b, off + 1, none⟩ = some (.string xt)) (T0 : W.cell? ⟨tb, 0, none⟩ = some (.int .i64 tk)) (T1 : W.cell? ⟨tb, 1, none⟩ = some (.string tt)) (i0 : 0 < n) (i1 : (0 : Int) < (n : Int)) (q1 : (xk == tk) = true) (q2 : (xt.toList == tt.toList) = false)
    (hE : ∀ u, Kp W u → Q .normal { tmps := #[s0, .pointer (some ⟨tb, 0, none⟩), .bool false, .slice (some ⟨b, off, none⟩) n cc, s4, s5, s6, s7, s8, s9, s10, s11, s12, s13, s14, s15, s16, s17, s18, s19, s20, s21, s22, s23, s24, s25, s26, s27, s28, s29, .slice (some ⟨b, off, none⟩) n cc, .pointer (some ⟨b, off, none⟩), .pointer (some ⟨b, off, none⟩), .int .i64 xk, .pointer (some ⟨tb, 0, none⟩), .int .i64 tk, .bool true, .bool true, .slice (some ⟨b, off, none⟩) n cc, .pointer (some ⟨b, off, none⟩), .pointer (some ⟨b, off + 1, none⟩), .string xt, .pointer (some ⟨tb, 1, none⟩), .string tt, .bool false, .bool false, .bool false, undef, undef, undef, undef, undef, undef, undef, undef, undef, .bool false], defers := [] } u) :
    (Code.region 6 (regArr Try.f42 6) true).wp Try.prog Q { tmps := #[s0, .pointer (some ⟨tb, 0, none⟩), s2, .slice (some ⟨b, off, none⟩) n cc, s4, s5, s6, s7, s8, s9, s10, s11, s12, s13, s14, s15, s16, s17, s18, s19, s20, s21, s22, s23, s24, s25, s26, s27, s28, s29, s30, s31, s32, s33, s34, s35, s36, s37, s38, s39, s40, s41, s42, s43, s44, s45, s46, s47, s48, s49, s50, s51, s52, s53, s54, s55, s56], defers := [] } W := by
  simp only [regArr, Try.f42, Option.map_some, Option.getD_some, regOf, if_true, if_false, List.append_nil, List.nil_append, List.toList_toArray, Nat.reduceEqDiff, reduceIte]
  refine wp_region_kp [[], [0], [1], [2], [], [4], [3, 5], [6], [7], [7, 8], [7, 9], [7, 10], [7], [7, 12], [7, 11, 13], [7, 14], [15], [16], [16, 17], [16, 18], [16, 19], [20], [20, 21], [20, 22], [20, 23], [16, 20, 24], [16, 25], [26]] (fun u => Kp W u)
    [fun (y : Value) (u : World) => y = (.slice (some ⟨b, off, none⟩) n cc : Value),
     fun (y : Value) (u : World) => y = (.pointer (some ⟨b, off, none⟩) : Value),
     fun (y : Value) (u : World) => y = (.pointer (some ⟨b, off, none⟩) : Value),
     fun (y : Value) (u : World) => y = (.int .i64 xk : Value),
     fun (y : Value) (u : World) => y = (.pointer (some ⟨tb, 0, none⟩) : Value),
     fun (y : Value) (u : World) => y = (.int .i64 tk : Value),
     fun (y : Value) (u : World) => y = (.bool true : Value),
     fun (y : Value) (u : World) => y = (.bool true : Value),
     fun (y : Value) (u : World) => y = (.slice (some ⟨b, off, none⟩) n cc : Value),
     fun (y : Value) (u : World) => y = (.pointer (some ⟨b, off, none⟩) : Value),
     fun (y : Value) (u : World) => y = (.pointer (some ⟨b, off + 1, none⟩) : Value),
     fun (y : Value) (u : World) => y = (.string xt : Value),
     fun (y : Value) (u : World) => y = (.pointer (some ⟨tb, 1, none⟩) : Value),
     fun (y : Value) (u : World) => y = (.string tt : Value),
     fun (y : Value) (u : World) => y = (.bool false : Value),
     fun (y : Value) (u : World) => y = (.bool false : Value),
     fun (y : Value) (u : World) => y = (.bool false : Value),
     fun (y : Value) (u : World) => y = (undef : Value),
     fun (y : Value) (u : World) => y = (undef : Value),
     fun (y : Value) (u : World) => y = (undef : Value),
     fun (y : Value) (u : World) => y = (undef : Value),
     fun (y : Value) (u : World) => y = (undef : Value),
     fun (y : Value) (u : World) => y = (undef : Value),
     fun (y : Value) (u : World) => y = (undef : Value),
     fun (y : Value) (u : World) => y = (undef : Value),
     fun (y : Value) (u : World) => y = (undef : Value),
     fun (y : Value) (u : World) => y = (.bool false : Value),
     fun (y : Value) (u : World) => y = (.bool false : Value)]
    (by kernel_rfl) (by kernel_rfl) (by kernel_rfl) (by kernel_rfl) ((Kp.refl _).drew) (fun _ _ hk h => h.trans hk) ⟨fun _ _ _ _ h => h, fun _ _ _ _ h => h, fun _ _ _ _ h => h, fun _ _ _ _ h => h, fun _ _ _ _ h => h, fun _ _ _ _ h => h, fun _ _ _ _ h => h, fun _ _ _ _ h => h, fun _ _ _ _ h => h, fun _ _ _ _ h => h, fun _ _ _ _ h => h, fun _ _ _ _ h => h, fun _ _ _ _ h => h, fun _ _ _ _ h => h, fun _ _ _ _ h => h, fun _ _ _ _ h => h, fun _ _ _ _ h => h, fun _ _ _ _ h => h, fun _ _ _ _ h => h, fun _ _ _ _ h => h, fun _ _ _ _ h => h, fun _ _ _ _ h => h, fun _ _ _ _ h => h, fun _ _ _ _ h => h, fun _ _ _ _ h => h, fun _ _ _ _ h => h, fun _ _ _ _ h => h, fun _ _ _ _ h => h, trivial⟩ ⟨?sc0, ?sc1, ?sc2, ?sc3, ?sc4, ?sc5, ?sc6, ?sc7, ?sc8, ?sc9, ?sc10, ?sc11, ?sc12, ?sc13, ?sc14, ?sc15, ?sc16, ?sc17, ?sc18, ?sc19, ?sc20, ?sc21, ?sc22, ?sc23, ?sc24, ?sc25, ?sc26, ?sc27, trivial⟩ ?hEc
  case sc0 =>
    refine OpStepK.by_ ?_
    intro a x u ht hs hg hd K hK
    clear hd
    refine OpGoal.live (wanted_free (by kernel_rfl)) ?_
    have e3 : a.eval (Operand.tmp 3) = (.slice (some ⟨b, off, none⟩) n cc : Value) := (ht 3).trans (by kernel_rfl)
    clear ht hs
    refine BigFrame.wp_move _ rfl ?_
    exact hK.out _ _ (Kp.refl _) e3
  case sc1 =>
    refine OpStepK.by_ ?_
    intro a x u ht hs hg hd K hK
    have d0 : (x 0) = .slice (some ⟨b, off, none⟩) n cc := And.left hd
    clear hd
    refine OpGoal.live (wanted_free (by kernel_rfl)) ?_
    have e30 : a.tmps[30]? = some (.slice (some ⟨b, off, none⟩) n cc : Value) := (hs 30).trans (Eq.trans (b := some (x 0)) (by kernel_rfl) (by rw [d0]))
    clear d0
    clear ht hs
    go_simp
    exact hK.out _ _ (Kp.refl _) rfl
  case sc2 =>
    refine OpStepK.by_ ?_
    intro a x u ht hs hg hd K hK
    have d1 : (x 1) = .pointer (some ⟨b, off, none⟩) := And.left hd
    clear hd
    refine OpGoal.live (wanted_free (by kernel_rfl)) ?_
    have e31 : a.tmps[31]? = some (.pointer (some ⟨b, off, none⟩) : Value) := (hs 31).trans (Eq.trans (b := some (x 1)) (by kernel_rfl) (by rw [d1]))
    clear d1
    clear ht hs
    go_simp
    exact hK.out _ _ (Kp.refl _) rfl
  case sc3 =>
    refine OpStepK.by_ ?_
    intro a x u ht hs hg hd K hK
    have d2 : (x 2) = .pointer (some ⟨b, off, none⟩) := And.left hd
    clear hd
    refine OpGoal.live (wanted_free (by kernel_rfl)) ?_
    have e32 : a.tmps[32]? = some (.pointer (some ⟨b, off, none⟩) : Value) := (hs 32).trans (Eq.trans (b := some (x 2)) (by kernel_rfl) (by rw [d2]))
    clear d2
    clear ht hs
    have q0 := cell_kp hg hb X0
    go_simp
    exact hK.out _ _ (Kp.refl _) rfl
  case sc4 =>
    refine OpStepK.by_ ?_
    intro a x u ht hs hg hd K hK
    clear hd
    refine OpGoal.live (wanted_free (by kernel_rfl)) ?_
    have e1 : a.tmps[1]? = some (.pointer (some ⟨tb, 0, none⟩) : Value) := (hs 1).trans (by kernel_rfl)
    clear ht hs
    go_simp
    exact hK.out _ _ (Kp.refl _) rfl
  case sc5 =>
    refine OpStepK.by_ ?_
    intro a x u ht hs hg hd K hK
    have d4 : (x 4) = .pointer (some ⟨tb, 0, none⟩) := And.left hd
    clear hd
    refine OpGoal.live (wanted_free (by kernel_rfl)) ?_
    have e34 : a.tmps[34]? = some (.pointer (some ⟨tb, 0, none⟩) : Value) := (hs 34).trans (Eq.trans (b := some (x 4)) (by kernel_rfl) (by rw [d4]))
    clear d4
    clear ht hs
    have q0 := cell_kp hg htb T0
    go_simp
    exact hK.out _ _ (Kp.refl _) rfl
  case sc6 =>
    refine OpStepK.by_ ?_
    intro a x u ht hs hg hd K hK
    have d3 : (x 3) = .int .i64 xk := And.left hd
    have d5 : (x 5) = .int .i64 tk := And.left (And.right hd)
    clear hd
    refine OpGoal.live (wanted_free (by kernel_rfl)) ?_
    have e33 : a.tmps[33]? = some (.int .i64 xk : Value) := (hs 33).trans (Eq.trans (b := some (x 3)) (by kernel_rfl) (by rw [d3]))
    have e35 : a.tmps[35]? = some (.int .i64 tk : Value) := (hs 35).trans (Eq.trans (b := some (x 5)) (by kernel_rfl) (by rw [d5]))
    clear d3 d5
    clear ht hs
    go_simp
    exact hK.out _ _ (Kp.refl _) rfl
  case sc7 =>
    refine OpStepK.by_ ?_
    intro a x u ht hs hg hd K hK
    have d6 : (x 6) = .bool true := And.left hd
    clear hd
    refine OpGoal.live (wanted_free (by kernel_rfl)) ?_
    have e36 : a.eval (Operand.tmp 36) = (.bool true : Value) := (ht 36).trans (Eq.trans (b := x 6) (by kernel_rfl) d6)
    clear d6
    clear ht hs
    refine BigFrame.wp_move _ rfl ?_
    exact hK.out _ _ (Kp.refl _) e36
  case sc8 =>
    refine OpStepK.by_ ?_
    intro a x u ht hs hg hd K hK
    have d7 : (x 7) = .bool true := And.left hd
    clear hd
    refine OpGoal.live (wanted_yes (j := 7) (d := 37) (by kernel_rfl) (by kernel_rfl) ((hs 37).trans (Eq.trans (b := some (x 7)) (by kernel_rfl) (by rw [d7])))) ?_
    have e3 : a.eval (Operand.tmp 3) = (.slice (some ⟨b, off, none⟩) n cc : Value) := (ht 3).trans (by kernel_rfl)
    clear d7
    clear ht hs
    refine BigFrame.wp_move _ rfl ?_
    exact hK.out _ _ (Kp.refl _) e3
  case sc9 =>
    refine OpStepK.by_ ?_
    intro a x u ht hs hg hd K hK
    have d7 : (x 7) = .bool true := And.left hd
    have d8 : (x 8) = .slice (some ⟨b, off, none⟩) n cc := And.left (And.right hd)
    clear hd
    refine OpGoal.live (wanted_yes (j := 7) (d := 37) (by kernel_rfl) (by kernel_rfl) ((hs 37).trans (Eq.trans (b := some (x 7)) (by kernel_rfl) (by rw [d7])))) ?_
    have e38 : a.tmps[38]? = some (.slice (some ⟨b, off, none⟩) n cc : Value) := (hs 38).trans (Eq.trans (b := some (x 8)) (by kernel_rfl) (by rw [d8]))
    clear d7 d8
    clear ht hs
    go_simp
    exact hK.out _ _ (Kp.refl _) rfl
  case sc10 =>
    refine OpStepK.by_ ?_
    intro a x u ht hs hg hd K hK
    have d7 : (x 7) = .bool true := And.left hd
    have d9 : (x 9) = .pointer (some ⟨b, off, none⟩) := And.left (And.right hd)
    clear hd
    refine OpGoal.live (wanted_yes (j := 7) (d := 37) (by kernel_rfl) (by kernel_rfl) ((hs 37).trans (Eq.trans (b := some (x 7)) (by kernel_rfl) (by rw [d7])))) ?_
    have e39 : a.tmps[39]? = some (.pointer (some ⟨b, off, none⟩) : Value) := (hs 39).trans (Eq.trans (b := some (x 9)) (by kernel_rfl) (by rw [d9]))
    clear d7 d9
    clear ht hs
    go_simp
    exact hK.out _ _ (Kp.refl _) rfl
  case sc11 =>
    refine OpStepK.by_ ?_
    intro a x u ht hs hg hd K hK
    have d7 : (x 7) = .bool true := And.left hd
    have d10 : (x 10) = .pointer (some ⟨b, off + 1, none⟩) := And.left (And.right hd)
    clear hd
    refine OpGoal.live (wanted_yes (j := 7) (d := 37) (by kernel_rfl) (by kernel_rfl) ((hs 37).trans (Eq.trans (b := some (x 7)) (by kernel_rfl) (by rw [d7])))) ?_
    have e40 : a.tmps[40]? = some (.pointer (some ⟨b, off + 1, none⟩) : Value) := (hs 40).trans (Eq.trans (b := some (x 10)) (by kernel_rfl) (by rw [d10]))
    clear d7 d10
    clear ht hs
    have q0 := cell_kp hg hb X1
    go_simp
    exact hK.out _ _ (Kp.refl _) rfl
  case sc12 =>
    refine OpStepK.by_ ?_
    intro a x u ht hs hg hd K hK
    have d7 : (x 7) = .bool true := And.left hd
    clear hd
    refine OpGoal.live (wanted_yes (j := 7) (d := 37) (by kernel_rfl) (by kernel_rfl) ((hs 37).trans (Eq.trans (b := some (x 7)) (by kernel_rfl) (by rw [d7])))) ?_
    have e1 : a.tmps[1]? = some (.pointer (some ⟨tb, 0, none⟩) : Value) := (hs 1).trans (by kernel_rfl)
    clear d7
    clear ht hs
    go_simp
    exact hK.out _ _ (Kp.refl _) rfl
  case sc13 =>
    refine OpStepK.by_ ?_
    intro a x u ht hs hg hd K hK
    have d7 : (x 7) = .bool true := And.left hd
    have d12 : (x 12) = .pointer (some ⟨tb, 1, none⟩) := And.left (And.right hd)
    clear hd
    refine OpGoal.live (wanted_yes (j := 7) (d := 37) (by kernel_rfl) (by kernel_rfl) ((hs 37).trans (Eq.trans (b := some (x 7)) (by kernel_rfl) (by rw [d7])))) ?_
    have e42 : a.tmps[42]? = some (.pointer (some ⟨tb, 1, none⟩) : Value) := (hs 42).trans (Eq.trans (b := some (x 12)) (by kernel_rfl) (by rw [d12]))
    clear d7 d12
    clear ht hs
    have q0 := cell_kp hg htb T1
    go_simp
    exact hK.out _ _ (Kp.refl _) rfl
  case sc14 =>
    refine OpStepK.by_ ?_
    intro a x u ht hs hg hd K hK
    have d7 : (x 7) = .bool true := And.left hd
    have d11 : (x 11) = .string xt := And.left (And.right hd)
    have d13 : (x 13) = .string tt := And.left (And.right (And.right hd))
    clear hd
    refine OpGoal.live (wanted_yes (j := 7) (d := 37) (by kernel_rfl) (by kernel_rfl) ((hs 37).trans (Eq.trans (b := some (x 7)) (by kernel_rfl) (by rw [d7])))) ?_
    have e41 : a.tmps[41]? = some (.string xt : Value) := (hs 41).trans (Eq.trans (b := some (x 11)) (by kernel_rfl) (by rw [d11]))
    have e43 : a.tmps[43]? = some (.string tt : Value) := (hs 43).trans (Eq.trans (b := some (x 13)) (by kernel_rfl) (by rw [d13]))
    clear d7 d11 d13
    clear ht hs
    go_simp
    exact hK.out _ _ (Kp.refl _) rfl
  case sc15 =>
    refine OpStepK.by_ ?_
    intro a x u ht hs hg hd K hK
    have d7 : (x 7) = .bool true := And.left hd
    have d14 : (x 14) = .bool false := And.left (And.right hd)
    clear hd
    refine OpGoal.live (wanted_free (by kernel_rfl)) ?_
    have e37 : a.tmps[37]? = some (.bool true : Value) := (hs 37).trans (Eq.trans (b := some (x 7)) (by kernel_rfl) (by rw [d7]))
    have e44 : a.tmps[44]? = some (.bool false : Value) := (hs 44).trans (Eq.trans (b := some (x 14)) (by kernel_rfl) (by rw [d14]))
    clear d7 d14
    clear ht hs
    go_simp
    exact hK.out _ _ (Kp.refl _) rfl
  case sc16 =>
    refine OpStepK.by_ ?_
    intro a x u ht hs hg hd K hK
    have d15 : (x 15) = .bool false := And.left hd
    clear hd
    refine OpGoal.live (wanted_free (by kernel_rfl)) ?_
    have e45 : a.eval (Operand.tmp 45) = (.bool false : Value) := (ht 45).trans (Eq.trans (b := x 15) (by kernel_rfl) d15)
    clear d15
    clear ht hs
    refine BigFrame.wp_move _ rfl ?_
    exact hK.out _ _ (Kp.refl _) e45
  case sc17 =>
    refine OpStepK.by_ ?_
    intro a x u ht hs hg hd K hK
    have d16 : (x 16) = .bool false := And.left hd
    clear hd
    refine OpGoal.dead (wanted_no (j := 16) (d := 46) (b := true) (c := false) (by kernel_rfl) (by kernel_rfl) ((hs 46).trans (Eq.trans (b := some (x 16)) (by kernel_rfl) (by rw [d16]))) (by decide)) ?_
    exact hK.out _ _ (Kp.refl _) rfl
  case sc18 =>
    refine OpStepK.by_ ?_
    intro a x u ht hs hg hd K hK
    have d16 : (x 16) = .bool false := And.left hd
    have d17 : (x 17) = undef := And.left (And.right hd)
    clear hd
    refine OpGoal.dead (wanted_no (j := 16) (d := 46) (b := true) (c := false) (by kernel_rfl) (by kernel_rfl) ((hs 46).trans (Eq.trans (b := some (x 16)) (by kernel_rfl) (by rw [d16]))) (by decide)) ?_
    exact hK.out _ _ (Kp.refl _) rfl
  case sc19 =>
    refine OpStepK.by_ ?_
    intro a x u ht hs hg hd K hK
    have d16 : (x 16) = .bool false := And.left hd
    have d18 : (x 18) = undef := And.left (And.right hd)
    clear hd
    refine OpGoal.dead (wanted_no (j := 16) (d := 46) (b := true) (c := false) (by kernel_rfl) (by kernel_rfl) ((hs 46).trans (Eq.trans (b := some (x 16)) (by kernel_rfl) (by rw [d16]))) (by decide)) ?_
    exact hK.out _ _ (Kp.refl _) rfl
  case sc20 =>
    refine OpStepK.by_ ?_
    intro a x u ht hs hg hd K hK
    have d16 : (x 16) = .bool false := And.left hd
    have d19 : (x 19) = undef := And.left (And.right hd)
    clear hd
    refine OpGoal.dead (wanted_no (j := 16) (d := 46) (b := true) (c := false) (by kernel_rfl) (by kernel_rfl) ((hs 46).trans (Eq.trans (b := some (x 16)) (by kernel_rfl) (by rw [d16]))) (by decide)) ?_
    exact hK.out _ _ (Kp.refl _) rfl
  case sc21 =>
    refine OpStepK.by_ ?_
    intro a x u ht hs hg hd K hK
    have d20 : (x 20) = undef := And.left hd
    clear hd
    refine OpGoal.dead (wanted_un (j := 20) (d := 50) (b := false) (by kernel_rfl) (by kernel_rfl) ((hs 50).trans (Eq.trans (b := some (x 20)) (by kernel_rfl) (by rw [d20])))) ?_
    exact hK.out _ _ (Kp.refl _) rfl
  case sc22 =>
    refine OpStepK.by_ ?_
    intro a x u ht hs hg hd K hK
    have d20 : (x 20) = undef := And.left hd
    have d21 : (x 21) = undef := And.left (And.right hd)
    clear hd
    refine OpGoal.dead (wanted_un (j := 20) (d := 50) (b := false) (by kernel_rfl) (by kernel_rfl) ((hs 50).trans (Eq.trans (b := some (x 20)) (by kernel_rfl) (by rw [d20])))) ?_
    exact hK.out _ _ (Kp.refl _) rfl
  case sc23 =>
    refine OpStepK.by_ ?_
    intro a x u ht hs hg hd K hK
    have d20 : (x 20) = undef := And.left hd
    have d22 : (x 22) = undef := And.left (And.right hd)
    clear hd
    refine OpGoal.dead (wanted_un (j := 20) (d := 50) (b := false) (by kernel_rfl) (by kernel_rfl) ((hs 50).trans (Eq.trans (b := some (x 20)) (by kernel_rfl) (by rw [d20])))) ?_
    exact hK.out _ _ (Kp.refl _) rfl
  case sc24 =>
    refine OpStepK.by_ ?_
    intro a x u ht hs hg hd K hK
    have d20 : (x 20) = undef := And.left hd
    have d23 : (x 23) = undef := And.left (And.right hd)
    clear hd
    refine OpGoal.dead (wanted_un (j := 20) (d := 50) (b := false) (by kernel_rfl) (by kernel_rfl) ((hs 50).trans (Eq.trans (b := some (x 20)) (by kernel_rfl) (by rw [d20])))) ?_
    exact hK.out _ _ (Kp.refl _) rfl
  case sc25 =>
    refine OpStepK.by_ ?_
    intro a x u ht hs hg hd K hK
    have d16 : (x 16) = .bool false := And.left hd
    have d20 : (x 20) = undef := And.left (And.right hd)
    have d24 : (x 24) = undef := And.left (And.right (And.right hd))
    clear hd
    refine OpGoal.dead (wanted_no (j := 16) (d := 46) (b := true) (c := false) (by kernel_rfl) (by kernel_rfl) ((hs 46).trans (Eq.trans (b := some (x 16)) (by kernel_rfl) (by rw [d16]))) (by decide)) ?_
    exact hK.out _ _ (Kp.refl _) rfl
  case sc26 =>
    refine OpStepK.by_ ?_
    intro a x u ht hs hg hd K hK
    have d16 : (x 16) = .bool false := And.left hd
    have d25 : (x 25) = undef := And.left (And.right hd)
    clear hd
    refine OpGoal.live (wanted_free (by kernel_rfl)) ?_
    have e46 : a.tmps[46]? = some (.bool false : Value) := (hs 46).trans (Eq.trans (b := some (x 16)) (by kernel_rfl) (by rw [d16]))
    have e55 : a.tmps[55]? = some (undef : Value) := (hs 55).trans (Eq.trans (b := some (x 25)) (by kernel_rfl) (by rw [d25]))
    clear d16 d25
    clear ht hs
    go_simp
    exact hK.out _ _ (Kp.refl _) rfl
  case sc27 =>
    refine OpStepK.by_ ?_
    intro a x u ht hs hg hd K hK
    have d26 : (x 26) = .bool false := And.left hd
    clear hd
    refine OpGoal.live (wanted_free (by kernel_rfl)) ?_
    have e56 : a.eval (Operand.tmp 56) = (.bool false : Value) := (ht 56).trans (Eq.trans (b := x 26) (by kernel_rfl) d26)
    clear d26
    clear ht hs
    refine BigFrame.wp_assign _ rfl ?_
    exact hK.out _ _ (Kp.refl _) e56
  intro x u hg he
  have d0 : (x 0) = .slice (some ⟨b, off, none⟩) n cc := And.left he
  have d1 : (x 1) = .pointer (some ⟨b, off, none⟩) := And.left (And.right he)
  have d2 : (x 2) = .pointer (some ⟨b, off, none⟩) := And.left (And.right (And.right he))
  have d3 : (x 3) = .int .i64 xk := And.left (And.right (And.right (And.right he)))
  have d4 : (x 4) = .pointer (some ⟨tb, 0, none⟩) := And.left (And.right (And.right (And.right (And.right he))))
  have d5 : (x 5) = .int .i64 tk := And.left (And.right (And.right (And.right (And.right (And.right he)))))
  have d6 : (x 6) = .bool true := And.left (And.right (And.right (And.right (And.right (And.right (And.right he))))))
  have d7 : (x 7) = .bool true := And.left (And.right (And.right (And.right (And.right (And.right (And.right (And.right he)))))))
  have d8 : (x 8) = .slice (some ⟨b, off, none⟩) n cc := And.left (And.right (And.right (And.right (And.right (And.right (And.right (And.right (And.right he))))))))
  have d9 : (x 9) = .pointer (some ⟨b, off, none⟩) := And.left (And.right (And.right (And.right (And.right (And.right (And.right (And.right (And.right (And.right he)))))))))
  have d10 : (x 10) = .pointer (some ⟨b, off + 1, none⟩) := And.left (And.right (And.right (And.right (And.right (And.right (And.right (And.right (And.right (And.right (And.right he))))))))))
  have d11 : (x 11) = .string xt := And.left (And.right (And.right (And.right (And.right (And.right (And.right (And.right (And.right (And.right (And.right (And.right he)))))))))))
  have d12 : (x 12) = .pointer (some ⟨tb, 1, none⟩) := And.left (And.right (And.right (And.right (And.right (And.right (And.right (And.right (And.right (And.right (And.right (And.right (And.right he))))))))))))
  have d13 : (x 13) = .string tt := And.left (And.right (And.right (And.right (And.right (And.right (And.right (And.right (And.right (And.right (And.right (And.right (And.right (And.right he)))))))))))))
  have d14 : (x 14) = .bool false := And.left (And.right (And.right (And.right (And.right (And.right (And.right (And.right (And.right (And.right (And.right (And.right (And.right (And.right (And.right he))))))))))))))
  have d15 : (x 15) = .bool false := And.left (And.right (And.right (And.right (And.right (And.right (And.right (And.right (And.right (And.right (And.right (And.right (And.right (And.right (And.right (And.right he)))))))))))))))
  have d16 : (x 16) = .bool false := And.left (And.right (And.right (And.right (And.right (And.right (And.right (And.right (And.right (And.right (And.right (And.right (And.right (And.right (And.right (And.right (And.right he))))))))))))))))
  have d17 : (x 17) = undef := And.left (And.right (And.right (And.right (And.right (And.right (And.right (And.right (And.right (And.right (And.right (And.right (And.right (And.right (And.right (And.right (And.right (And.right he)))))))))))))))))
  have d18 : (x 18) = undef := And.left (And.right (And.right (And.right (And.right (And.right (And.right (And.right (And.right (And.right (And.right (And.right (And.right (And.right (And.right (And.right (And.right (And.right (And.right he))))))))))))))))))
  have d19 : (x 19) = undef := And.left (And.right (And.right (And.right (And.right (And.right (And.right (And.right (And.right (And.right (And.right (And.right (And.right (And.right (And.right (And.right (And.right (And.right (And.right (And.right he)))))))))))))))))))
  have d20 : (x 20) = undef := And.left (And.right (And.right (And.right (And.right (And.right (And.right (And.right (And.right (And.right (And.right (And.right (And.right (And.right (And.right (And.right (And.right (And.right (And.right (And.right (And.right he))))))))))))))))))))
  have d21 : (x 21) = undef := And.left (And.right (And.right (And.right (And.right (And.right (And.right (And.right (And.right (And.right (And.right (And.right (And.right (And.right (And.right (And.right (And.right (And.right (And.right (And.right (And.right (And.right he)))))))))))))))))))))
  have d22 : (x 22) = undef := And.left (And.right (And.right (And.right (And.right (And.right (And.right (And.right (And.right (And.right (And.right (And.right (And.right (And.right (And.right (And.right (And.right (And.right (And.right (And.right (And.right (And.right (And.right he))))))))))))))))))))))
  have d23 : (x 23) = undef := And.left (And.right (And.right (And.right (And.right (And.right (And.right (And.right (And.right (And.right (And.right (And.right (And.right (And.right (And.right (And.right (And.right (And.right (And.right (And.right (And.right (And.right (And.right (And.right he)))))))))))))))))))))))
  have d24 : (x 24) = undef := And.left (And.right (And.right (And.right (And.right (And.right (And.right (And.right (And.right (And.right (And.right (And.right (And.right (And.right (And.right (And.right (And.right (And.right (And.right (And.right (And.right (And.right (And.right (And.right (And.right he))))))))))))))))))))))))
  have d25 : (x 25) = undef := And.left (And.right (And.right (And.right (And.right (And.right (And.right (And.right (And.right (And.right (And.right (And.right (And.right (And.right (And.right (And.right (And.right (And.right (And.right (And.right (And.right (And.right (And.right (And.right (And.right (And.right he)))))))))))))))))))))))))
  have d26 : (x 26) = .bool false := And.left (And.right (And.right (And.right (And.right (And.right (And.right (And.right (And.right (And.right (And.right (And.right (And.right (And.right (And.right (And.right (And.right (And.right (And.right (And.right (And.right (And.right (And.right (And.right (And.right (And.right (And.right he))))))))))))))))))))))))))
  have d27 : (x 27) = .bool false := And.left (And.right (And.right (And.right (And.right (And.right (And.right (And.right (And.right (And.right (And.right (And.right (And.right (And.right (And.right (And.right (And.right (And.right (And.right (And.right (And.right (And.right (And.right (And.right (And.right (And.right (And.right (And.right he)))))))))))))))))))))))))))
  clear he
  refine ⟨?_⟩
  simp only [putsFrom, Act.put, List.setIfInBounds_toArray, List.set_cons_zero, List.set_cons_succ, Nat.reduceAdd, d0, d1, d2, d3, d4, d5, d6, d7, d8, d9, d10, d11, d12, d13, d14, d15, d16, d17, d18, d19, d20, d21, d22, d23, d24, d25, d26, d27]
  clear d0 d1 d2 d3 d4 d5 d6 d7 d8 d9 d10 d11 d12 d13 d14 d15 d16 d17 d18 d19 d20 d21 d22 d23 d24 d25 d26 d27
  exact hE _ hg
set_option maxRecDepth 20000 in
set_option maxHeartbeats 4000000 in
theorem who_c {W : World} {Q : Exit → Act → World → Prop} {s0 s2 s4 s5 s6 s7 s8 s9 s10 s11 s12 s13 s14 s15 s16 s17 s18 s19 s20 s21 s22 s23 s24 s25 s26 s27 s28 s29 s30 s31 s32 s33 s34 s35 s36 s37 s38 s39 s40 s41 s42 s43 s44 s45 s46 s47 s48 s49 s50 s51 s52 s53 s54 s55 s56 : Value} (b off n cc tb : Nat) (xk tk : Int) (xt tt : ByteArray) (hb : b < W.heap.size) (htb : tb < W.heap.size) (X0 : W.cell? ⟨b, off, none⟩ = some (.int .i64 xk)) (X1 : W.cell? ⟨b, off + 1, none⟩ = some (.string xt)) (T0 : W.cell? ⟨tb, 0, none⟩ = some (.int .i64 tk)) (T1 : W.cell? ⟨tb, 1, none⟩ = some (.string tt)) (i0 : 0 < n) (i1 : (0 : Int) < (n : Int)) (q1 : (xk == tk) = true) (q2 : (xt.toList == tt.toList) = true) (q3 : ((n : Int) == 1) = true)
    (hE : ∀ u, Kp W u → Q .normal { tmps := #[s0, .pointer (some ⟨tb, 0, none⟩), .bool true, .slice (some ⟨b, off, none⟩) n cc, s4, s5, s6, s7, s8, s9, s10, s11, s12, s13, s14, s15, s16, s17, s18, s19, s20, s21, s22, s23, s24, s25, s26, s27, s28, s29, .slice (some ⟨b, off, none⟩) n cc, .pointer (some ⟨b, off, none⟩), .pointer (some ⟨b, off, none⟩), .int .i64 xk, .pointer (some ⟨tb, 0, none⟩), .int .i64 tk, .bool true, .bool true, .slice (some ⟨b, off, none⟩) n cc, .pointer (some ⟨b, off, none⟩), .pointer (some ⟨b, off + 1, none⟩), .string xt, .pointer (some ⟨tb, 1, none⟩), .string tt, .bool true, .bool true, .bool true, .slice (some ⟨b, off, none⟩) n cc, .int .i64 (n : Int), .bool true, .bool true, undef, undef, undef, undef, .bool true, .bool true], defers := [] } u) :
    (Code.region 6 (regArr Try.f42 6) true).wp Try.prog Q { tmps := #[s0, .pointer (some ⟨tb, 0, none⟩), s2, .slice (some ⟨b, off, none⟩) n cc, s4, s5, s6, s7, s8, s9, s10, s11, s12, s13, s14, s15, s16, s17, s18, s19, s20, s21, s22, s23, s24, s25, s26, s27, s28, s29, s30, s31, s32, s33, s34, s35, s36, s37, s38, s39, s40, s41, s42, s43, s44, s45, s46, s47, s48, s49, s50, s51, s52, s53, s54, s55, s56], defers := [] } W := by
  simp only [regArr, Try.f42, Option.map_some, Option.getD_some, regOf, if_true, if_false, List.append_nil, List.nil_append, List.toList_toArray, Nat.reduceEqDiff, reduceIte]
  refine wp_region_kp [[], [0], [1], [2], [], [4], [3, 5], [6], [7], [7, 8], [7, 9], [7, 10], [7], [7, 12], [7, 11, 13], [7, 14], [15], [16], [16, 17], [16, 18], [16, 19], [20], [20, 21], [20, 22], [20, 23], [16, 20, 24], [16, 25], [26]] (fun u => Kp W u)
    [fun (y : Value) (u : World) => y = (.slice (some ⟨b, off, none⟩) n cc : Value),
     fun (y : Value) (u : World) => y = (.pointer (some ⟨b, off, none⟩) : Value),
     fun (y : Value) (u : World) => y = (.pointer (some ⟨b, off, none⟩) : Value),
     fun (y : Value) (u : World) => y = (.int .i64 xk : Value),
     fun (y : Value) (u : World) => y = (.pointer (some ⟨tb, 0, none⟩) : Value),
     fun (y : Value) (u : World) => y = (.int .i64 tk : Value),
     fun (y : Value) (u : World) => y = (.bool true : Value),
     fun (y : Value) (u : World) => y = (.bool true : Value),
     fun (y : Value) (u : World) => y = (.slice (some ⟨b, off, none⟩) n cc : Value),
     fun (y : Value) (u : World) => y = (.pointer (some ⟨b, off, none⟩) : Value),
     fun (y : Value) (u : World) => y = (.pointer (some ⟨b, off + 1, none⟩) : Value),
     fun (y : Value) (u : World) => y = (.string xt : Value),
     fun (y : Value) (u : World) => y = (.pointer (some ⟨tb, 1, none⟩) : Value),
     fun (y : Value) (u : World) => y = (.string tt : Value),
     fun (y : Value) (u : World) => y = (.bool true : Value),
     fun (y : Value) (u : World) => y = (.bool true : Value),
     fun (y : Value) (u : World) => y = (.bool true : Value),
     fun (y : Value) (u : World) => y = (.slice (some ⟨b, off, none⟩) n cc : Value),
     fun (y : Value) (u : World) => y = (.int .i64 (n : Int) : Value),
     fun (y : Value) (u : World) => y = (.bool true : Value),
     fun (y : Value) (u : World) => y = (.bool true : Value),
     fun (y : Value) (u : World) => y = (undef : Value),
     fun (y : Value) (u : World) => y = (undef : Value),
     fun (y : Value) (u : World) => y = (undef : Value),
     fun (y : Value) (u : World) => y = (undef : Value),
     fun (y : Value) (u : World) => y = (.bool true : Value),
     fun (y : Value) (u : World) => y = (.bool true : Value),
     fun (y : Value) (u : World) => y = (.bool true : Value)]
    (by kernel_rfl) (by kernel_rfl) (by kernel_rfl) (by kernel_rfl) ((Kp.refl _).drew) (fun _ _ hk h => h.trans hk) ⟨fun _ _ _ _ h => h, fun _ _ _ _ h => h, fun _ _ _ _ h => h, fun _ _ _ _ h => h, fun _ _ _ _ h => h, fun _ _ _ _ h => h, fun _ _ _ _ h => h, fun _ _ _ _ h => h, fun _ _ _ _ h => h, fun _ _ _ _ h => h, fun _ _ _ _ h => h, fun _ _ _ _ h => h, fun _ _ _ _ h => h, fun _ _ _ _ h => h, fun _ _ _ _ h => h, fun _ _ _ _ h => h, fun _ _ _ _ h => h, fun _ _ _ _ h => h, fun _ _ _ _ h => h, fun _ _ _ _ h => h, fun _ _ _ _ h => h, fun _ _ _ _ h => h, fun _ _ _ _ h => h, fun _ _ _ _ h => h, fun _ _ _ _ h => h, fun _ _ _ _ h => h, fun _ _ _ _ h => h, fun _ _ _ _ h => h, trivial⟩ ⟨?sd0, ?sd1, ?sd2, ?sd3, ?sd4, ?sd5, ?sd6, ?sd7, ?sd8, ?sd9, ?sd10, ?sd11, ?sd12, ?sd13, ?sd14, ?sd15, ?sd16, ?sd17, ?sd18, ?sd19, ?sd20, ?sd21, ?sd22, ?sd23, ?sd24, ?sd25, ?sd26, ?sd27, trivial⟩ ?hEd
  case sd0 =>
    refine OpStepK.by_ ?_
    intro a x u ht hs hg hd K hK
    clear hd
    refine OpGoal.live (wanted_free (by kernel_rfl)) ?_
    have e3 : a.eval (Operand.tmp 3) = (.slice (some ⟨b, off, none⟩) n cc : Value) := (ht 3).trans (by kernel_rfl)
    clear ht hs
    refine BigFrame.wp_move _ rfl ?_
    exact hK.out _ _ (Kp.refl _) e3
  case sd1 =>
    refine OpStepK.by_ ?_
    intro a x u ht hs hg hd K hK
    have d0 : (x 0) = .slice (some ⟨b, off, none⟩) n cc := And.left hd
    clear hd
    refine OpGoal.live (wanted_free (by kernel_rfl)) ?_
    have e30 : a.tmps[30]? = some (.slice (some ⟨b, off, none⟩) n cc : Value) := (hs 30).trans (Eq.trans (b := some (x 0)) (by kernel_rfl) (by rw [d0]))
    clear d0
    clear ht hs
    go_simp
    exact hK.out _ _ (Kp.refl _) rfl
  case sd2 =>
    refine OpStepK.by_ ?_
    intro a x u ht hs hg hd K hK
    have d1 : (x 1) = .pointer (some ⟨b, off, none⟩) := And.left hd
    clear hd
    refine OpGoal.live (wanted_free (by kernel_rfl)) ?_
    have e31 : a.tmps[31]? = some (.pointer (some ⟨b, off, none⟩) : Value) := (hs 31).trans (Eq.trans (b := some (x 1)) (by kernel_rfl) (by rw [d1]))
    clear d1
    clear ht hs
    go_simp
    exact hK.out _ _ (Kp.refl _) rfl
  case sd3 =>
    refine OpStepK.by_ ?_
    intro a x u ht hs hg hd K hK
    have d2 : (x 2) = .pointer (some ⟨b, off, none⟩) := And.left hd
    clear hd
    refine OpGoal.live (wanted_free (by kernel_rfl)) ?_
    have e32 : a.tmps[32]? = some (.pointer (some ⟨b, off, none⟩) : Value) := (hs 32).trans (Eq.trans (b := some (x 2)) (by kernel_rfl) (by rw [d2]))
    clear d2
    clear ht hs
    have q0 := cell_kp hg hb X0
    go_simp
    exact hK.out _ _ (Kp.refl _) rfl
  case sd4 =>
    refine OpStepK.by_ ?_
    intro a x u ht hs hg hd K hK
    clear hd
    refine OpGoal.live (wanted_free (by kernel_rfl)) ?_
    have e1 : a.tmps[1]? = some (.pointer (some ⟨tb, 0, none⟩) : Value) := (hs 1).trans (by kernel_rfl)
    clear ht hs
    go_simp
    exact hK.out _ _ (Kp.refl _) rfl
  case sd5 =>
    refine OpStepK.by_ ?_
    intro a x u ht hs hg hd K hK
    have d4 : (x 4) = .pointer (some ⟨tb, 0, none⟩) := And.left hd
    clear hd
    refine OpGoal.live (wanted_free (by kernel_rfl)) ?_
    have e34 : a.tmps[34]? = some (.pointer (some ⟨tb, 0, none⟩) : Value) := (hs 34).trans (Eq.trans (b := some (x 4)) (by kernel_rfl) (by rw [d4]))
    clear d4
    clear ht hs
    have q0 := cell_kp hg htb T0
    go_simp
    exact hK.out _ _ (Kp.refl _) rfl
  case sd6 =>
    refine OpStepK.by_ ?_
    intro a x u ht hs hg hd K hK
    have d3 : (x 3) = .int .i64 xk := And.left hd
    have d5 : (x 5) = .int .i64 tk := And.left (And.right hd)
    clear hd
    refine OpGoal.live (wanted_free (by kernel_rfl)) ?_
    have e33 : a.tmps[33]? = some (.int .i64 xk : Value) := (hs 33).trans (Eq.trans (b := some (x 3)) (by kernel_rfl) (by rw [d3]))
    have e35 : a.tmps[35]? = some (.int .i64 tk : Value) := (hs 35).trans (Eq.trans (b := some (x 5)) (by kernel_rfl) (by rw [d5]))
    clear d3 d5
    clear ht hs
    go_simp
    exact hK.out _ _ (Kp.refl _) rfl
  case sd7 =>
    refine OpStepK.by_ ?_
    intro a x u ht hs hg hd K hK
    have d6 : (x 6) = .bool true := And.left hd
    clear hd
    refine OpGoal.live (wanted_free (by kernel_rfl)) ?_
    have e36 : a.eval (Operand.tmp 36) = (.bool true : Value) := (ht 36).trans (Eq.trans (b := x 6) (by kernel_rfl) d6)
    clear d6
    clear ht hs
    refine BigFrame.wp_move _ rfl ?_
    exact hK.out _ _ (Kp.refl _) e36
  case sd8 =>
    refine OpStepK.by_ ?_
    intro a x u ht hs hg hd K hK
    have d7 : (x 7) = .bool true := And.left hd
    clear hd
    refine OpGoal.live (wanted_yes (j := 7) (d := 37) (by kernel_rfl) (by kernel_rfl) ((hs 37).trans (Eq.trans (b := some (x 7)) (by kernel_rfl) (by rw [d7])))) ?_
    have e3 : a.eval (Operand.tmp 3) = (.slice (some ⟨b, off, none⟩) n cc : Value) := (ht 3).trans (by kernel_rfl)
    clear d7
    clear ht hs
    refine BigFrame.wp_move _ rfl ?_
    exact hK.out _ _ (Kp.refl _) e3
  case sd9 =>
    refine OpStepK.by_ ?_
    intro a x u ht hs hg hd K hK
    have d7 : (x 7) = .bool true := And.left hd
    have d8 : (x 8) = .slice (some ⟨b, off, none⟩) n cc := And.left (And.right hd)
    clear hd
    refine OpGoal.live (wanted_yes (j := 7) (d := 37) (by kernel_rfl) (by kernel_rfl) ((hs 37).trans (Eq.trans (b := some (x 7)) (by kernel_rfl) (by rw [d7])))) ?_
    have e38 : a.tmps[38]? = some (.slice (some ⟨b, off, none⟩) n cc : Value) := (hs 38).trans (Eq.trans (b := some (x 8)) (by kernel_rfl) (by rw [d8]))
    clear d7 d8
    clear ht hs
    go_simp
    exact hK.out _ _ (Kp.refl _) rfl
  case sd10 =>
    refine OpStepK.by_ ?_
    intro a x u ht hs hg hd K hK
    have d7 : (x 7) = .bool true := And.left hd
    have d9 : (x 9) = .pointer (some ⟨b, off, none⟩) := And.left (And.right hd)
    clear hd
    refine OpGoal.live (wanted_yes (j := 7) (d := 37) (by kernel_rfl) (by kernel_rfl) ((hs 37).trans (Eq.trans (b := some (x 7)) (by kernel_rfl) (by rw [d7])))) ?_
    have e39 : a.tmps[39]? = some (.pointer (some ⟨b, off, none⟩) : Value) := (hs 39).trans (Eq.trans (b := some (x 9)) (by kernel_rfl) (by rw [d9]))
    clear d7 d9
    clear ht hs
    go_simp
    exact hK.out _ _ (Kp.refl _) rfl
  case sd11 =>
    refine OpStepK.by_ ?_
    intro a x u ht hs hg hd K hK
    have d7 : (x 7) = .bool true := And.left hd
    have d10 : (x 10) = .pointer (some ⟨b, off + 1, none⟩) := And.left (And.right hd)
    clear hd
    refine OpGoal.live (wanted_yes (j := 7) (d := 37) (by kernel_rfl) (by kernel_rfl) ((hs 37).trans (Eq.trans (b := some (x 7)) (by kernel_rfl) (by rw [d7])))) ?_
    have e40 : a.tmps[40]? = some (.pointer (some ⟨b, off + 1, none⟩) : Value) := (hs 40).trans (Eq.trans (b := some (x 10)) (by kernel_rfl) (by rw [d10]))
    clear d7 d10
    clear ht hs
    have q0 := cell_kp hg hb X1
    go_simp
    exact hK.out _ _ (Kp.refl _) rfl
  case sd12 =>
    refine OpStepK.by_ ?_
    intro a x u ht hs hg hd K hK
    have d7 : (x 7) = .bool true := And.left hd
    clear hd
    refine OpGoal.live (wanted_yes (j := 7) (d := 37) (by kernel_rfl) (by kernel_rfl) ((hs 37).trans (Eq.trans (b := some (x 7)) (by kernel_rfl) (by rw [d7])))) ?_
    have e1 : a.tmps[1]? = some (.pointer (some ⟨tb, 0, none⟩) : Value) := (hs 1).trans (by kernel_rfl)
    clear d7
    clear ht hs
    go_simp
    exact hK.out _ _ (Kp.refl _) rfl
  case sd13 =>
    refine OpStepK.by_ ?_
    intro a x u ht hs hg hd K hK
    have d7 : (x 7) = .bool true := And.left hd
    have d12 : (x 12) = .pointer (some ⟨tb, 1, none⟩) := And.left (And.right hd)
    clear hd
    refine OpGoal.live (wanted_yes (j := 7) (d := 37) (by kernel_rfl) (by kernel_rfl) ((hs 37).trans (Eq.trans (b := some (x 7)) (by kernel_rfl) (by rw [d7])))) ?_
    have e42 : a.tmps[42]? = some (.pointer (some ⟨tb, 1, none⟩) : Value) := (hs 42).trans (Eq.trans (b := some (x 12)) (by kernel_rfl) (by rw [d12]))
    clear d7 d12
    clear ht hs
    have q0 := cell_kp hg htb T1
    go_simp
    exact hK.out _ _ (Kp.refl _) rfl
  case sd14 =>
    refine OpStepK.by_ ?_
    intro a x u ht hs hg hd K hK
    have d7 : (x 7) = .bool true := And.left hd
    have d11 : (x 11) = .string xt := And.left (And.right hd)
    have d13 : (x 13) = .string tt := And.left (And.right (And.right hd))
    clear hd
    refine OpGoal.live (wanted_yes (j := 7) (d := 37) (by kernel_rfl) (by kernel_rfl) ((hs 37).trans (Eq.trans (b := some (x 7)) (by kernel_rfl) (by rw [d7])))) ?_
    have e41 : a.tmps[41]? = some (.string xt : Value) := (hs 41).trans (Eq.trans (b := some (x 11)) (by kernel_rfl) (by rw [d11]))
    have e43 : a.tmps[43]? = some (.string tt : Value) := (hs 43).trans (Eq.trans (b := some (x 13)) (by kernel_rfl) (by rw [d13]))
    clear d7 d11 d13
    clear ht hs
    go_simp
    exact hK.out _ _ (Kp.refl _) rfl
  case sd15 =>
    refine OpStepK.by_ ?_
    intro a x u ht hs hg hd K hK
    have d7 : (x 7) = .bool true := And.left hd
    have d14 : (x 14) = .bool true := And.left (And.right hd)
    clear hd
    refine OpGoal.live (wanted_free (by kernel_rfl)) ?_
    have e37 : a.tmps[37]? = some (.bool true : Value) := (hs 37).trans (Eq.trans (b := some (x 7)) (by kernel_rfl) (by rw [d7]))
    have e44 : a.tmps[44]? = some (.bool true : Value) := (hs 44).trans (Eq.trans (b := some (x 14)) (by kernel_rfl) (by rw [d14]))
    clear d7 d14
    clear ht hs
    go_simp
    exact hK.out _ _ (Kp.refl _) rfl
  case sd16 =>
    refine OpStepK.by_ ?_
    intro a x u ht hs hg hd K hK
    have d15 : (x 15) = .bool true := And.left hd
    clear hd
    refine OpGoal.live (wanted_free (by kernel_rfl)) ?_
    have e45 : a.eval (Operand.tmp 45) = (.bool true : Value) := (ht 45).trans (Eq.trans (b := x 15) (by kernel_rfl) d15)
    clear d15
    clear ht hs
    refine BigFrame.wp_move _ rfl ?_
    exact hK.out _ _ (Kp.refl _) e45
  case sd17 =>
    refine OpStepK.by_ ?_
    intro a x u ht hs hg hd K hK
    have d16 : (x 16) = .bool true := And.left hd
    clear hd
    refine OpGoal.live (wanted_yes (j := 16) (d := 46) (by kernel_rfl) (by kernel_rfl) ((hs 46).trans (Eq.trans (b := some (x 16)) (by kernel_rfl) (by rw [d16])))) ?_
    have e3 : a.eval (Operand.tmp 3) = (.slice (some ⟨b, off, none⟩) n cc : Value) := (ht 3).trans (by kernel_rfl)
    clear d16
    clear ht hs
    refine BigFrame.wp_move _ rfl ?_
    exact hK.out _ _ (Kp.refl _) e3
  case sd18 =>
    refine OpStepK.by_ ?_
    intro a x u ht hs hg hd K hK
    have d16 : (x 16) = .bool true := And.left hd
    have d17 : (x 17) = .slice (some ⟨b, off, none⟩) n cc := And.left (And.right hd)
    clear hd
    refine OpGoal.live (wanted_yes (j := 16) (d := 46) (by kernel_rfl) (by kernel_rfl) ((hs 46).trans (Eq.trans (b := some (x 16)) (by kernel_rfl) (by rw [d16])))) ?_
    have e47 : a.tmps[47]? = some (.slice (some ⟨b, off, none⟩) n cc : Value) := (hs 47).trans (Eq.trans (b := some (x 17)) (by kernel_rfl) (by rw [d17]))
    clear d16 d17
    clear ht hs
    go_simp
    exact hK.out _ _ (Kp.refl _) rfl
  case sd19 =>
    refine OpStepK.by_ ?_
    intro a x u ht hs hg hd K hK
    have d16 : (x 16) = .bool true := And.left hd
    have d18 : (x 18) = .int .i64 (n : Int) := And.left (And.right hd)
    clear hd
    refine OpGoal.live (wanted_yes (j := 16) (d := 46) (by kernel_rfl) (by kernel_rfl) ((hs 46).trans (Eq.trans (b := some (x 16)) (by kernel_rfl) (by rw [d16])))) ?_
    have e48 : a.tmps[48]? = some (.int .i64 (n : Int) : Value) := (hs 48).trans (Eq.trans (b := some (x 18)) (by kernel_rfl) (by rw [d18]))
    clear d16 d18
    clear ht hs
    go_simp
    exact hK.out _ _ (Kp.refl _) rfl
  case sd20 =>
    refine OpStepK.by_ ?_
    intro a x u ht hs hg hd K hK
    have d16 : (x 16) = .bool true := And.left hd
    have d19 : (x 19) = .bool true := And.left (And.right hd)
    clear hd
    refine OpGoal.live (wanted_yes (j := 16) (d := 46) (by kernel_rfl) (by kernel_rfl) ((hs 46).trans (Eq.trans (b := some (x 16)) (by kernel_rfl) (by rw [d16])))) ?_
    have e49 : a.eval (Operand.tmp 49) = (.bool true : Value) := (ht 49).trans (Eq.trans (b := x 19) (by kernel_rfl) d19)
    clear d16 d19
    clear ht hs
    refine BigFrame.wp_move _ rfl ?_
    exact hK.out _ _ (Kp.refl _) e49
  case sd21 =>
    refine OpStepK.by_ ?_
    intro a x u ht hs hg hd K hK
    have d20 : (x 20) = .bool true := And.left hd
    clear hd
    refine OpGoal.dead (wanted_no (j := 20) (d := 50) (b := false) (c := true) (by kernel_rfl) (by kernel_rfl) ((hs 50).trans (Eq.trans (b := some (x 20)) (by kernel_rfl) (by rw [d20]))) (by decide)) ?_
    exact hK.out _ _ (Kp.refl _) rfl
  case sd22 =>
    refine OpStepK.by_ ?_
    intro a x u ht hs hg hd K hK
    have d20 : (x 20) = .bool true := And.left hd
    have d21 : (x 21) = undef := And.left (And.right hd)
    clear hd
    refine OpGoal.dead (wanted_no (j := 20) (d := 50) (b := false) (c := true) (by kernel_rfl) (by kernel_rfl) ((hs 50).trans (Eq.trans (b := some (x 20)) (by kernel_rfl) (by rw [d20]))) (by decide)) ?_
    exact hK.out _ _ (Kp.refl _) rfl
  case sd23 =>
    refine OpStepK.by_ ?_
    intro a x u ht hs hg hd K hK
    have d20 : (x 20) = .bool true := And.left hd
    have d22 : (x 22) = undef := And.left (And.right hd)
    clear hd
    refine OpGoal.dead (wanted_no (j := 20) (d := 50) (b := false) (c := true) (by kernel_rfl) (by kernel_rfl) ((hs 50).trans (Eq.trans (b := some (x 20)) (by kernel_rfl) (by rw [d20]))) (by decide)) ?_
    exact hK.out _ _ (Kp.refl _) rfl
  case sd24 =>
    refine OpStepK.by_ ?_
    intro a x u ht hs hg hd K hK
    have d20 : (x 20) = .bool true := And.left hd
    have d23 : (x 23) = undef := And.left (And.right hd)
    clear hd
    refine OpGoal.dead (wanted_no (j := 20) (d := 50) (b := false) (c := true) (by kernel_rfl) (by kernel_rfl) ((hs 50).trans (Eq.trans (b := some (x 20)) (by kernel_rfl) (by rw [d20]))) (by decide)) ?_
    exact hK.out _ _ (Kp.refl _) rfl
  case sd25 =>
    refine OpStepK.by_ ?_
    intro a x u ht hs hg hd K hK
    have d16 : (x 16) = .bool true := And.left hd
    have d20 : (x 20) = .bool true := And.left (And.right hd)
    have d24 : (x 24) = undef := And.left (And.right (And.right hd))
    clear hd
    refine OpGoal.live (wanted_yes (j := 16) (d := 46) (by kernel_rfl) (by kernel_rfl) ((hs 46).trans (Eq.trans (b := some (x 16)) (by kernel_rfl) (by rw [d16])))) ?_
    have e50 : a.tmps[50]? = some (.bool true : Value) := (hs 50).trans (Eq.trans (b := some (x 20)) (by kernel_rfl) (by rw [d20]))
    have e54 : a.tmps[54]? = some (undef : Value) := (hs 54).trans (Eq.trans (b := some (x 24)) (by kernel_rfl) (by rw [d24]))
    clear d16 d20 d24
    clear ht hs
    go_simp
    exact hK.out _ _ (Kp.refl _) rfl
  case sd26 =>
    refine OpStepK.by_ ?_
    intro a x u ht hs hg hd K hK
    have d16 : (x 16) = .bool true := And.left hd
    have d25 : (x 25) = .bool true := And.left (And.right hd)
    clear hd
    refine OpGoal.live (wanted_free (by kernel_rfl)) ?_
    have e46 : a.tmps[46]? = some (.bool true : Value) := (hs 46).trans (Eq.trans (b := some (x 16)) (by kernel_rfl) (by rw [d16]))
    have e55 : a.tmps[55]? = some (.bool true : Value) := (hs 55).trans (Eq.trans (b := some (x 25)) (by kernel_rfl) (by rw [d25]))
    clear d16 d25
    clear ht hs
    go_simp
    exact hK.out _ _ (Kp.refl _) rfl
  case sd27 =>
    refine OpStepK.by_ ?_
    intro a x u ht hs hg hd K hK
    have d26 : (x 26) = .bool true := And.left hd
    clear hd
    refine OpGoal.live (wanted_free (by kernel_rfl)) ?_
    have e56 : a.eval (Operand.tmp 56) = (.bool true : Value) := (ht 56).trans (Eq.trans (b := x 26) (by kernel_rfl) d26)
    clear d26
    clear ht hs
    refine BigFrame.wp_assign _ rfl ?_
    exact hK.out _ _ (Kp.refl _) e56
  intro x u hg he
  have d0 : (x 0) = .slice (some ⟨b, off, none⟩) n cc := And.left he
  have d1 : (x 1) = .pointer (some ⟨b, off, none⟩) := And.left (And.right he)
  have d2 : (x 2) = .pointer (some ⟨b, off, none⟩) := And.left (And.right (And.right he))
  have d3 : (x 3) = .int .i64 xk := And.left (And.right (And.right (And.right he)))
  have d4 : (x 4) = .pointer (some ⟨tb, 0, none⟩) := And.left (And.right (And.right (And.right (And.right he))))
  have d5 : (x 5) = .int .i64 tk := And.left (And.right (And.right (And.right (And.right (And.right he)))))
  have d6 : (x 6) = .bool true := And.left (And.right (And.right (And.right (And.right (And.right (And.right he))))))
  have d7 : (x 7) = .bool true := And.left (And.right (And.right (And.right (And.right (And.right (And.right (And.right he)))))))
  have d8 : (x 8) = .slice (some ⟨b, off, none⟩) n cc := And.left (And.right (And.right (And.right (And.right (And.right (And.right (And.right (And.right he))))))))
  have d9 : (x 9) = .pointer (some ⟨b, off, none⟩) := And.left (And.right (And.right (And.right (And.right (And.right (And.right (And.right (And.right (And.right he)))))))))
  have d10 : (x 10) = .pointer (some ⟨b, off + 1, none⟩) := And.left (And.right (And.right (And.right (And.right (And.right (And.right (And.right (And.right (And.right (And.right he))))))))))
  have d11 : (x 11) = .string xt := And.left (And.right (And.right (And.right (And.right (And.right (And.right (And.right (And.right (And.right (And.right (And.right he)))))))))))
  have d12 : (x 12) = .pointer (some ⟨tb, 1, none⟩) := And.left (And.right (And.right (And.right (And.right (And.right (And.right (And.right (And.right (And.right (And.right (And.right (And.right he))))))))))))
  have d13 : (x 13) = .string tt := And.left (And.right (And.right (And.right (And.right (And.right (And.right (And.right (And.right (And.right (And.right (And.right (And.right (And.right he)))))))))))))
  have d14 : (x 14) = .bool true := And.left (And.right (And.right (And.right (And.right (And.right (And.right (And.right (And.right (And.right (And.right (And.right (And.right (And.right (And.right he))))))))))))))
  have d15 : (x 15) = .bool true := And.left (And.right (And.right (And.right (And.right (And.right (And.right (And.right (And.right (And.right (And.right (And.right (And.right (And.right (And.right (And.right he)))))))))))))))
  have d16 : (x 16) = .bool true := And.left (And.right (And.right (And.right (And.right (And.right (And.right (And.right (And.right (And.right (And.right (And.right (And.right (And.right (And.right (And.right (And.right he))))))))))))))))
  have d17 : (x 17) = .slice (some ⟨b, off, none⟩) n cc := And.left (And.right (And.right (And.right (And.right (And.right (And.right (And.right (And.right (And.right (And.right (And.right (And.right (And.right (And.right (And.right (And.right (And.right he)))))))))))))))))
  have d18 : (x 18) = .int .i64 (n : Int) := And.left (And.right (And.right (And.right (And.right (And.right (And.right (And.right (And.right (And.right (And.right (And.right (And.right (And.right (And.right (And.right (And.right (And.right (And.right he))))))))))))))))))
  have d19 : (x 19) = .bool true := And.left (And.right (And.right (And.right (And.right (And.right (And.right (And.right (And.right (And.right (And.right (And.right (And.right (And.right (And.right (And.right (And.right (And.right (And.right (And.right he)))))))))))))))))))
  have d20 : (x 20) = .bool true := And.left (And.right (And.right (And.right (And.right (And.right (And.right (And.right (And.right (And.right (And.right (And.right (And.right (And.right (And.right (And.right (And.right (And.right (And.right (And.right (And.right he))))))))))))))))))))
  have d21 : (x 21) = undef := And.left (And.right (And.right (And.right (And.right (And.right (And.right (And.right (And.right (And.right (And.right (And.right (And.right (And.right (And.right (And.right (And.right (And.right (And.right (And.right (And.right (And.right he)))))))))))))))))))))
  have d22 : (x 22) = undef := And.left (And.right (And.right (And.right (And.right (And.right (And.right (And.right (And.right (And.right (And.right (And.right (And.right (And.right (And.right (And.right (And.right (And.right (And.right (And.right (And.right (And.right (And.right he))))))))))))))))))))))
  have d23 : (x 23) = undef := And.left (And.right (And.right (And.right (And.right (And.right (And.right (And.right (And.right (And.right (And.right (And.right (And.right (And.right (And.right (And.right (And.right (And.right (And.right (And.right (And.right (And.right (And.right (And.right he)))))))))))))))))))))))
  have d24 : (x 24) = undef := And.left (And.right (And.right (And.right (And.right (And.right (And.right (And.right (And.right (And.right (And.right (And.right (And.right (And.right (And.right (And.right (And.right (And.right (And.right (And.right (And.right (And.right (And.right (And.right (And.right he))))))))))))))))))))))))
  have d25 : (x 25) = .bool true := And.left (And.right (And.right (And.right (And.right (And.right (And.right (And.right (And.right (And.right (And.right (And.right (And.right (And.right (And.right (And.right (And.right (And.right (And.right (And.right (And.right (And.right (And.right (And.right (And.right (And.right he)))))))))))))))))))))))))
  have d26 : (x 26) = .bool true := And.left (And.right (And.right (And.right (And.right (And.right (And.right (And.right (And.right (And.right (And.right (And.right (And.right (And.right (And.right (And.right (And.right (And.right (And.right (And.right (And.right (And.right (And.right (And.right (And.right (And.right (And.right he))))))))))))))))))))))))))
  have d27 : (x 27) = .bool true := And.left (And.right (And.right (And.right (And.right (And.right (And.right (And.right (And.right (And.right (And.right (And.right (And.right (And.right (And.right (And.right (And.right (And.right (And.right (And.right (And.right (And.right (And.right (And.right (And.right (And.right (And.right (And.right he)))))))))))))))))))))))))))
  clear he
  refine ⟨?_⟩
  simp only [putsFrom, Act.put, List.setIfInBounds_toArray, List.set_cons_zero, List.set_cons_succ, Nat.reduceAdd, d0, d1, d2, d3, d4, d5, d6, d7, d8, d9, d10, d11, d12, d13, d14, d15, d16, d17, d18, d19, d20, d21, d22, d23, d24, d25, d26, d27]
  clear d0 d1 d2 d3 d4 d5 d6 d7 d8 d9 d10 d11 d12 d13 d14 d15 d16 d17 d18 d19 d20 d21 d22 d23 d24 d25 d26 d27
  exact hE _ hg
set_option maxRecDepth 20000 in
set_option maxHeartbeats 4000000 in
theorem who_d {W : World} {Q : Exit → Act → World → Prop} {s0 s2 s4 s5 s6 s7 s8 s9 s10 s11 s12 s13 s14 s15 s16 s17 s18 s19 s20 s21 s22 s23 s24 s25 s26 s27 s28 s29 s30 s31 s32 s33 s34 s35 s36 s37 s38 s39 s40 s41 s42 s43 s44 s45 s46 s47 s48 s49 s50 s51 s52 s53 s54 s55 s56 : Value} (b off n cc tb : Nat) (xk tk : Int) (xt tt : ByteArray) (hb : b < W.heap.size) (htb : tb < W.heap.size) (X0 : W.cell? ⟨b, off, none⟩ = some (.int .i64 xk)) (X1 : W.cell? ⟨b, off + 1, none⟩ = some (.string xt)) (T0 : W.cell? ⟨tb, 0, none⟩ = some (.int .i64 tk)) (T1 : W.cell? ⟨tb, 1, none⟩ = some (.string tt)) (i0 : 0 < n) (i1 : (0 : Int) < (n : Int)) (q1 : (xk == tk) = true) (q2 : (xt.toList == tt.toList) = true) (q3 : ((n : Int) == 1) = false) (xl xc : Int) (eb : Bool) (heb : endsT xk xt = eb) (X2 : W.cell? ⟨b, off + 2, none⟩ = some (.int .i64 xl)) (X3 : W.cell? ⟨b, off + 3, none⟩ = some (.int .i64 xc))
    (hE : ∀ u, Kp W u → Q .normal { tmps := #[s0, .pointer (some ⟨tb, 0, none⟩), .bool eb, .slice (some ⟨b, off, none⟩) n cc, s4, s5, s6, s7, s8, s9, s10, s11, s12, s13, s14, s15, s16, s17, s18, s19, s20, s21, s22, s23, s24, s25, s26, s27, s28, s29, .slice (some ⟨b, off, none⟩) n cc, .pointer (some ⟨b, off, none⟩), .pointer (some ⟨b, off, none⟩), .int .i64 xk, .pointer (some ⟨tb, 0, none⟩), .int .i64 tk, .bool true, .bool true, .slice (some ⟨b, off, none⟩) n cc, .pointer (some ⟨b, off, none⟩), .pointer (some ⟨b, off + 1, none⟩), .string xt, .pointer (some ⟨tb, 1, none⟩), .string tt, .bool true, .bool true, .bool true, .slice (some ⟨b, off, none⟩) n cc, .int .i64 (n : Int), .bool false, .bool false, .slice (some ⟨b, off, none⟩) n cc, .pointer (some ⟨b, off, none⟩), .agg #[.int .i64 xk, .string xt, .int .i64 xl, .int .i64 xc], .bool eb, .bool eb, .bool eb], defers := [] } u) :
    (Code.region 6 (regArr Try.f42 6) true).wp Try.prog Q { tmps := #[s0, .pointer (some ⟨tb, 0, none⟩), s2, .slice (some ⟨b, off, none⟩) n cc, s4, s5, s6, s7, s8, s9, s10, s11, s12, s13, s14, s15, s16, s17, s18, s19, s20, s21, s22, s23, s24, s25, s26, s27, s28, s29, s30, s31, s32, s33, s34, s35, s36, s37, s38, s39, s40, s41, s42, s43, s44, s45, s46, s47, s48, s49, s50, s51, s52, s53, s54, s55, s56], defers := [] } W := by
  simp only [regArr, Try.f42, Option.map_some, Option.getD_some, regOf, if_true, if_false, List.append_nil, List.nil_append, List.toList_toArray, Nat.reduceEqDiff, reduceIte]
  refine wp_region_kp [[], [0], [1], [2], [], [4], [3, 5], [6], [7], [7, 8], [7, 9], [7, 10], [7], [7, 12], [7, 11, 13], [7, 14], [15], [16], [16, 17], [16, 18], [16, 19], [20], [20, 21], [20, 22], [20, 23], [16, 20, 24], [16, 25], [26]] (fun u => Kp W u)
    [fun (y : Value) (u : World) => y = (.slice (some ⟨b, off, none⟩) n cc : Value),
     fun (y : Value) (u : World) => y = (.pointer (some ⟨b, off, none⟩) : Value),
     fun (y : Value) (u : World) => y = (.pointer (some ⟨b, off, none⟩) : Value),
     fun (y : Value) (u : World) => y = (.int .i64 xk : Value),
     fun (y : Value) (u : World) => y = (.pointer (some ⟨tb, 0, none⟩) : Value),
     fun (y : Value) (u : World) => y = (.int .i64 tk : Value),
     fun (y : Value) (u : World) => y = (.bool true : Value),
     fun (y : Value) (u : World) => y = (.bool true : Value),
     fun (y : Value) (u : World) => y = (.slice (some ⟨b, off, none⟩) n cc : Value),
     fun (y : Value) (u : World) => y = (.pointer (some ⟨b, off, none⟩) : Value),
     fun (y : Value) (u : World) => y = (.pointer (some ⟨b, off + 1, none⟩) : Value),
     fun (y : Value) (u : World) => y = (.string xt : Value),
     fun (y : Value) (u : World) => y = (.pointer (some ⟨tb, 1, none⟩) : Value),
     fun (y : Value) (u : World) => y = (.string tt : Value),
     fun (y : Value) (u : World) => y = (.bool true : Value),
     fun (y : Value) (u : World) => y = (.bool true : Value),
     fun (y : Value) (u : World) => y = (.bool true : Value),
     fun (y : Value) (u : World) => y = (.slice (some ⟨b, off, none⟩) n cc : Value),
     fun (y : Value) (u : World) => y = (.int .i64 (n : Int) : Value),
     fun (y : Value) (u : World) => y = (.bool false : Value),
     fun (y : Value) (u : World) => y = (.bool false : Value),
     fun (y : Value) (u : World) => y = (.slice (some ⟨b, off, none⟩) n cc : Value),
     fun (y : Value) (u : World) => y = (.pointer (some ⟨b, off, none⟩) : Value),
     fun (y : Value) (u : World) => y = (.agg #[.int .i64 xk, .string xt, .int .i64 xl, .int .i64 xc] : Value),
     fun (y : Value) (u : World) => y = (.bool eb : Value),
     fun (y : Value) (u : World) => y = (.bool eb : Value),
     fun (y : Value) (u : World) => y = (.bool eb : Value),
     fun (y : Value) (u : World) => y = (.bool eb : Value)]
    (by kernel_rfl) (by kernel_rfl) (by kernel_rfl) (by kernel_rfl) ((Kp.refl _).drew) (fun _ _ hk h => h.trans hk) ⟨fun _ _ _ _ h => h, fun _ _ _ _ h => h, fun _ _ _ _ h => h, fun _ _ _ _ h => h, fun _ _ _ _ h => h, fun _ _ _ _ h => h, fun _ _ _ _ h => h, fun _ _ _ _ h => h, fun _ _ _ _ h => h, fun _ _ _ _ h => h, fun _ _ _ _ h => h, fun _ _ _ _ h => h, fun _ _ _ _ h => h, fun _ _ _ _ h => h, fun _ _ _ _ h => h, fun _ _ _ _ h => h, fun _ _ _ _ h => h, fun _ _ _ _ h => h, fun _ _ _ _ h => h, fun _ _ _ _ h => h, fun _ _ _ _ h => h, fun _ _ _ _ h => h, fun _ _ _ _ h => h, fun _ _ _ _ h => h, fun _ _ _ _ h => h, fun _ _ _ _ h => h, fun _ _ _ _ h => h, fun _ _ _ _ h => h, trivial⟩ ⟨?se0, ?se1, ?se2, ?se3, ?se4, ?se5, ?se6, ?se7, ?se8, ?se9, ?se10, ?se11, ?se12, ?se13, ?se14, ?se15, ?se16, ?se17, ?se18, ?se19, ?se20, ?se21, ?se22, ?se23, ?se24, ?se25, ?se26, ?se27, trivial⟩ ?hEe
  case se0 =>
    refine OpStepK.by_ ?_
    intro a x u ht hs hg hd K hK
    clear hd
    refine OpGoal.live (wanted_free (by kernel_rfl)) ?_
    have e3 : a.eval (Operand.tmp 3) = (.slice (some ⟨b, off, none⟩) n cc : Value) := (ht 3).trans (by kernel_rfl)
    clear ht hs
    refine BigFrame.wp_move _ rfl ?_
    exact hK.out _ _ (Kp.refl _) e3
  case se1 =>
    refine OpStepK.by_ ?_
    intro a x u ht hs hg hd K hK
    have d0 : (x 0) = .slice (some ⟨b, off, none⟩) n cc := And.left hd
    clear hd
    refine OpGoal.live (wanted_free (by kernel_rfl)) ?_
    have e30 : a.tmps[30]? = some (.slice (some ⟨b, off, none⟩) n cc : Value) := (hs 30).trans (Eq.trans (b := some (x 0)) (by kernel_rfl) (by rw [d0]))
    clear d0
    clear ht hs
    go_simp
    exact hK.out _ _ (Kp.refl _) rfl
  case se2 =>
    refine OpStepK.by_ ?_
    intro a x u ht hs hg hd K hK
    have d1 : (x 1) = .pointer (some ⟨b, off, none⟩) := And.left hd
    clear hd
    refine OpGoal.live (wanted_free (by kernel_rfl)) ?_
    have e31 : a.tmps[31]? = some (.pointer (some ⟨b, off, none⟩) : Value) := (hs 31).trans (Eq.trans (b := some (x 1)) (by kernel_rfl) (by rw [d1]))
    clear d1
    clear ht hs
    go_simp
    exact hK.out _ _ (Kp.refl _) rfl
  case se3 =>
    refine OpStepK.by_ ?_
    intro a x u ht hs hg hd K hK
    have d2 : (x 2) = .pointer (some ⟨b, off, none⟩) := And.left hd
    clear hd
    refine OpGoal.live (wanted_free (by kernel_rfl)) ?_
    have e32 : a.tmps[32]? = some (.pointer (some ⟨b, off, none⟩) : Value) := (hs 32).trans (Eq.trans (b := some (x 2)) (by kernel_rfl) (by rw [d2]))
    clear d2
    clear ht hs
    have q0 := cell_kp hg hb X0
    go_simp
    exact hK.out _ _ (Kp.refl _) rfl
  case se4 =>
    refine OpStepK.by_ ?_
    intro a x u ht hs hg hd K hK
    clear hd
    refine OpGoal.live (wanted_free (by kernel_rfl)) ?_
    have e1 : a.tmps[1]? = some (.pointer (some ⟨tb, 0, none⟩) : Value) := (hs 1).trans (by kernel_rfl)
    clear ht hs
    go_simp
    exact hK.out _ _ (Kp.refl _) rfl
  case se5 =>
    refine OpStepK.by_ ?_
    intro a x u ht hs hg hd K hK
    have d4 : (x 4) = .pointer (some ⟨tb, 0, none⟩) := And.left hd
    clear hd
    refine OpGoal.live (wanted_free (by kernel_rfl)) ?_
    have e34 : a.tmps[34]? = some (.pointer (some ⟨tb, 0, none⟩) : Value) := (hs 34).trans (Eq.trans (b := some (x 4)) (by kernel_rfl) (by rw [d4]))
    clear d4
    clear ht hs
    have q0 := cell_kp hg htb T0
    go_simp
    exact hK.out _ _ (Kp.refl _) rfl
  case se6 =>
    refine OpStepK.by_ ?_
    intro a x u ht hs hg hd K hK
    have d3 : (x 3) = .int .i64 xk := And.left hd
    have d5 : (x 5) = .int .i64 tk := And.left (And.right hd)
    clear hd
    refine OpGoal.live (wanted_free (by kernel_rfl)) ?_
    have e33 : a.tmps[33]? = some (.int .i64 xk : Value) := (hs 33).trans (Eq.trans (b := some (x 3)) (by kernel_rfl) (by rw [d3]))
    have e35 : a.tmps[35]? = some (.int .i64 tk : Value) := (hs 35).trans (Eq.trans (b := some (x 5)) (by kernel_rfl) (by rw [d5]))
    clear d3 d5
    clear ht hs
    go_simp
    exact hK.out _ _ (Kp.refl _) rfl
  case se7 =>
    refine OpStepK.by_ ?_
    intro a x u ht hs hg hd K hK
    have d6 : (x 6) = .bool true := And.left hd
    clear hd
    refine OpGoal.live (wanted_free (by kernel_rfl)) ?_
    have e36 : a.eval (Operand.tmp 36) = (.bool true : Value) := (ht 36).trans (Eq.trans (b := x 6) (by kernel_rfl) d6)
    clear d6
    clear ht hs
    refine BigFrame.wp_move _ rfl ?_
    exact hK.out _ _ (Kp.refl _) e36
  case se8 =>
    refine OpStepK.by_ ?_
    intro a x u ht hs hg hd K hK
    have d7 : (x 7) = .bool true := And.left hd
    clear hd
    refine OpGoal.live (wanted_yes (j := 7) (d := 37) (by kernel_rfl) (by kernel_rfl) ((hs 37).trans (Eq.trans (b := some (x 7)) (by kernel_rfl) (by rw [d7])))) ?_
    have e3 : a.eval (Operand.tmp 3) = (.slice (some ⟨b, off, none⟩) n cc : Value) := (ht 3).trans (by kernel_rfl)
    clear d7
    clear ht hs
    refine BigFrame.wp_move _ rfl ?_
    exact hK.out _ _ (Kp.refl _) e3
  case se9 =>
    refine OpStepK.by_ ?_
    intro a x u ht hs hg hd K hK
    have d7 : (x 7) = .bool true := And.left hd
    have d8 : (x 8) = .slice (some ⟨b, off, none⟩) n cc := And.left (And.right hd)
    clear hd
    refine OpGoal.live (wanted_yes (j := 7) (d := 37) (by kernel_rfl) (by kernel_rfl) ((hs 37).trans (Eq.trans (b := some (x 7)) (by kernel_rfl) (by rw [d7])))) ?_
    have e38 : a.tmps[38]? = some (.slice (some ⟨b, off, none⟩) n cc : Value) := (hs 38).trans (Eq.trans (b := some (x 8)) (by kernel_rfl) (by rw [d8]))
    clear d7 d8
    clear ht hs
    go_simp
    exact hK.out _ _ (Kp.refl _) rfl
  case se10 =>
    refine OpStepK.by_ ?_
    intro a x u ht hs hg hd K hK
    have d7 : (x 7) = .bool true := And.left hd
    have d9 : (x 9) = .pointer (some ⟨b, off, none⟩) := And.left (And.right hd)
    clear hd
    refine OpGoal.live (wanted_yes (j := 7) (d := 37) (by kernel_rfl) (by kernel_rfl) ((hs 37).trans (Eq.trans (b := some (x 7)) (by kernel_rfl) (by rw [d7])))) ?_
    have e39 : a.tmps[39]? = some (.pointer (some ⟨b, off, none⟩) : Value) := (hs 39).trans (Eq.trans (b := some (x 9)) (by kernel_rfl) (by rw [d9]))
    clear d7 d9
    clear ht hs
    go_simp
    exact hK.out _ _ (Kp.refl _) rfl
  case se11 =>
    refine OpStepK.by_ ?_
    intro a x u ht hs hg hd K hK
    have d7 : (x 7) = .bool true := And.left hd
    have d10 : (x 10) = .pointer (some ⟨b, off + 1, none⟩) := And.left (And.right hd)
    clear hd
    refine OpGoal.live (wanted_yes (j := 7) (d := 37) (by kernel_rfl) (by kernel_rfl) ((hs 37).trans (Eq.trans (b := some (x 7)) (by kernel_rfl) (by rw [d7])))) ?_
    have e40 : a.tmps[40]? = some (.pointer (some ⟨b, off + 1, none⟩) : Value) := (hs 40).trans (Eq.trans (b := some (x 10)) (by kernel_rfl) (by rw [d10]))
    clear d7 d10
    clear ht hs
    have q0 := cell_kp hg hb X1
    go_simp
    exact hK.out _ _ (Kp.refl _) rfl
  case se12 =>
    refine OpStepK.by_ ?_
    intro a x u ht hs hg hd K hK
    have d7 : (x 7) = .bool true := And.left hd
    clear hd
    refine OpGoal.live (wanted_yes (j := 7) (d := 37) (by kernel_rfl) (by kernel_rfl) ((hs 37).trans (Eq.trans (b := some (x 7)) (by kernel_rfl) (by rw [d7])))) ?_
    have e1 : a.tmps[1]? = some (.pointer (some ⟨tb, 0, none⟩) : Value) := (hs 1).trans (by kernel_rfl)
    clear d7
    clear ht hs
    go_simp
    exact hK.out _ _ (Kp.refl _) rfl
  case se13 =>
    refine OpStepK.by_ ?_
    intro a x u ht hs hg hd K hK
    have d7 : (x 7) = .bool true := And.left hd
    have d12 : (x 12) = .pointer (some ⟨tb, 1, none⟩) := And.left (And.right hd)
    clear hd
    refine OpGoal.live (wanted_yes (j := 7) (d := 37) (by kernel_rfl) (by kernel_rfl) ((hs 37).trans (Eq.trans (b := some (x 7)) (by kernel_rfl) (by rw [d7])))) ?_
    have e42 : a.tmps[42]? = some (.pointer (some ⟨tb, 1, none⟩) : Value) := (hs 42).trans (Eq.trans (b := some (x 12)) (by kernel_rfl) (by rw [d12]))
    clear d7 d12
    clear ht hs
    have q0 := cell_kp hg htb T1
    go_simp
    exact hK.out _ _ (Kp.refl _) rfl
  case se14 =>
    refine OpStepK.by_ ?_
    intro a x u ht hs hg hd K hK
    have d7 : (x 7) = .bool true := And.left hd
    have d11 : (x 11) = .string xt := And.left (And.right hd)
    have d13 : (x 13) = .string tt := And.left (And.right (And.right hd))
    clear hd
    refine OpGoal.live (wanted_yes (j := 7) (d := 37) (by kernel_rfl) (by kernel_rfl) ((hs 37).trans (Eq.trans (b := some (x 7)) (by kernel_rfl) (by rw [d7])))) ?_
    have e41 : a.tmps[41]? = some (.string xt : Value) := (hs 41).trans (Eq.trans (b := some (x 11)) (by kernel_rfl) (by rw [d11]))
    have e43 : a.tmps[43]? = some (.string tt : Value) := (hs 43).trans (Eq.trans (b := some (x 13)) (by kernel_rfl) (by rw [d13]))
    clear d7 d11 d13
    clear ht hs
    go_simp
    exact hK.out _ _ (Kp.refl _) rfl
  case se15 =>
    refine OpStepK.by_ ?_
    intro a x u ht hs hg hd K hK
    have d7 : (x 7) = .bool true := And.left hd
    have d14 : (x 14) = .bool true := And.left (And.right hd)
    clear hd
    refine OpGoal.live (wanted_free (by kernel_rfl)) ?_
    have e37 : a.tmps[37]? = some (.bool true : Value) := (hs 37).trans (Eq.trans (b := some (x 7)) (by kernel_rfl) (by rw [d7]))
    have e44 : a.tmps[44]? = some (.bool true : Value) := (hs 44).trans (Eq.trans (b := some (x 14)) (by kernel_rfl) (by rw [d14]))
    clear d7 d14
    clear ht hs
    go_simp
    exact hK.out _ _ (Kp.refl _) rfl
  case se16 =>
    refine OpStepK.by_ ?_
    intro a x u ht hs hg hd K hK
    have d15 : (x 15) = .bool true := And.left hd
    clear hd
    refine OpGoal.live (wanted_free (by kernel_rfl)) ?_
    have e45 : a.eval (Operand.tmp 45) = (.bool true : Value) := (ht 45).trans (Eq.trans (b := x 15) (by kernel_rfl) d15)
    clear d15
    clear ht hs
    refine BigFrame.wp_move _ rfl ?_
    exact hK.out _ _ (Kp.refl _) e45
  case se17 =>
    refine OpStepK.by_ ?_
    intro a x u ht hs hg hd K hK
    have d16 : (x 16) = .bool true := And.left hd
    clear hd
    refine OpGoal.live (wanted_yes (j := 16) (d := 46) (by kernel_rfl) (by kernel_rfl) ((hs 46).trans (Eq.trans (b := some (x 16)) (by kernel_rfl) (by rw [d16])))) ?_
    have e3 : a.eval (Operand.tmp 3) = (.slice (some ⟨b, off, none⟩) n cc : Value) := (ht 3).trans (by kernel_rfl)
    clear d16
    clear ht hs
    refine BigFrame.wp_move _ rfl ?_
    exact hK.out _ _ (Kp.refl _) e3
  case se18 =>
    refine OpStepK.by_ ?_
    intro a x u ht hs hg hd K hK
    have d16 : (x 16) = .bool true := And.left hd
    have d17 : (x 17) = .slice (some ⟨b, off, none⟩) n cc := And.left (And.right hd)
    clear hd
    refine OpGoal.live (wanted_yes (j := 16) (d := 46) (by kernel_rfl) (by kernel_rfl) ((hs 46).trans (Eq.trans (b := some (x 16)) (by kernel_rfl) (by rw [d16])))) ?_
    have e47 : a.tmps[47]? = some (.slice (some ⟨b, off, none⟩) n cc : Value) := (hs 47).trans (Eq.trans (b := some (x 17)) (by kernel_rfl) (by rw [d17]))
    clear d16 d17
    clear ht hs
    go_simp
    exact hK.out _ _ (Kp.refl _) rfl
  case se19 =>
    refine OpStepK.by_ ?_
    intro a x u ht hs hg hd K hK
    have d16 : (x 16) = .bool true := And.left hd
    have d18 : (x 18) = .int .i64 (n : Int) := And.left (And.right hd)
    clear hd
    refine OpGoal.live (wanted_yes (j := 16) (d := 46) (by kernel_rfl) (by kernel_rfl) ((hs 46).trans (Eq.trans (b := some (x 16)) (by kernel_rfl) (by rw [d16])))) ?_
    have e48 : a.tmps[48]? = some (.int .i64 (n : Int) : Value) := (hs 48).trans (Eq.trans (b := some (x 18)) (by kernel_rfl) (by rw [d18]))
    clear d16 d18
    clear ht hs
    go_simp
    exact hK.out _ _ (Kp.refl _) rfl
  case se20 =>
    refine OpStepK.by_ ?_
    intro a x u ht hs hg hd K hK
    have d16 : (x 16) = .bool true := And.left hd
    have d19 : (x 19) = .bool false := And.left (And.right hd)
    clear hd
    refine OpGoal.live (wanted_yes (j := 16) (d := 46) (by kernel_rfl) (by kernel_rfl) ((hs 46).trans (Eq.trans (b := some (x 16)) (by kernel_rfl) (by rw [d16])))) ?_
    have e49 : a.eval (Operand.tmp 49) = (.bool false : Value) := (ht 49).trans (Eq.trans (b := x 19) (by kernel_rfl) d19)
    clear d16 d19
    clear ht hs
    refine BigFrame.wp_move _ rfl ?_
    exact hK.out _ _ (Kp.refl _) e49
  case se21 =>
    refine OpStepK.by_ ?_
    intro a x u ht hs hg hd K hK
    have d20 : (x 20) = .bool false := And.left hd
    clear hd
    refine OpGoal.live (wanted_yes (j := 20) (d := 50) (by kernel_rfl) (by kernel_rfl) ((hs 50).trans (Eq.trans (b := some (x 20)) (by kernel_rfl) (by rw [d20])))) ?_
    have e3 : a.eval (Operand.tmp 3) = (.slice (some ⟨b, off, none⟩) n cc : Value) := (ht 3).trans (by kernel_rfl)
    clear d20
    clear ht hs
    refine BigFrame.wp_move _ rfl ?_
    exact hK.out _ _ (Kp.refl _) e3
  case se22 =>
    refine OpStepK.by_ ?_
    intro a x u ht hs hg hd K hK
    have d20 : (x 20) = .bool false := And.left hd
    have d21 : (x 21) = .slice (some ⟨b, off, none⟩) n cc := And.left (And.right hd)
    clear hd
    refine OpGoal.live (wanted_yes (j := 20) (d := 50) (by kernel_rfl) (by kernel_rfl) ((hs 50).trans (Eq.trans (b := some (x 20)) (by kernel_rfl) (by rw [d20])))) ?_
    have e51 : a.tmps[51]? = some (.slice (some ⟨b, off, none⟩) n cc : Value) := (hs 51).trans (Eq.trans (b := some (x 21)) (by kernel_rfl) (by rw [d21]))
    clear d20 d21
    clear ht hs
    go_simp
    exact hK.out _ _ (Kp.refl _) rfl
  case se23 =>
    refine OpStepK.by_ ?_
    intro a x u ht hs hg hd K hK
    have d20 : (x 20) = .bool false := And.left hd
    have d22 : (x 22) = .pointer (some ⟨b, off, none⟩) := And.left (And.right hd)
    clear hd
    refine OpGoal.live (wanted_yes (j := 20) (d := 50) (by kernel_rfl) (by kernel_rfl) ((hs 50).trans (Eq.trans (b := some (x 20)) (by kernel_rfl) (by rw [d20])))) ?_
    have e52 : a.tmps[52]? = some (.pointer (some ⟨b, off, none⟩) : Value) := (hs 52).trans (Eq.trans (b := some (x 22)) (by kernel_rfl) (by rw [d22]))
    clear d20 d22
    clear ht hs
    have q0 := cell_kp hg hb X0
    have q1 := cell_kp hg hb X1
    have q2 := cell_kp hg hb X2
    have q3 := cell_kp hg hb X3
    go_simp
    exact hK.out _ _ (Kp.refl _) rfl
  case se24 =>
    intro x u hg hd K hK
    have d20 : (x 20) = .bool false := And.left hd
    have d23 : (x 23) = .agg #[.int .i64 xk, .string xt, .int .i64 xl, .int .i64 xc] := And.left (And.right hd)
    clear hd
    refine ⟨?_⟩
    simp only [putsFrom, Act.put, List.setIfInBounds_toArray, List.set_cons_zero, List.set_cons_succ, Nat.reduceAdd, d20, d23] at hK ⊢
    go_simp
    go_at_call 69
    have hc := (ends_any ⟨xk, xt, xl, xc⟩ u)
    refine hc.mono ?_
    clear hc
    rintro e u' ⟨rfl, hk⟩
    dsimp only
    exact hK.out _ _ hk (congrArg Value.bool heb)
  case se25 =>
    refine OpStepK.by_ ?_
    intro a x u ht hs hg hd K hK
    have d16 : (x 16) = .bool true := And.left hd
    have d20 : (x 20) = .bool false := And.left (And.right hd)
    have d24 : (x 24) = .bool eb := And.left (And.right (And.right hd))
    clear hd
    refine OpGoal.live (wanted_yes (j := 16) (d := 46) (by kernel_rfl) (by kernel_rfl) ((hs 46).trans (Eq.trans (b := some (x 16)) (by kernel_rfl) (by rw [d16])))) ?_
    have e50 : a.tmps[50]? = some (.bool false : Value) := (hs 50).trans (Eq.trans (b := some (x 20)) (by kernel_rfl) (by rw [d20]))
    have e54 : a.tmps[54]? = some (.bool eb : Value) := (hs 54).trans (Eq.trans (b := some (x 24)) (by kernel_rfl) (by rw [d24]))
    clear d16 d20 d24
    clear ht hs
    go_simp
    exact hK.out _ _ (Kp.refl _) rfl
  case se26 =>
    refine OpStepK.by_ ?_
    intro a x u ht hs hg hd K hK
    have d16 : (x 16) = .bool true := And.left hd
    have d25 : (x 25) = .bool eb := And.left (And.right hd)
    clear hd
    refine OpGoal.live (wanted_free (by kernel_rfl)) ?_
    have e46 : a.tmps[46]? = some (.bool true : Value) := (hs 46).trans (Eq.trans (b := some (x 16)) (by kernel_rfl) (by rw [d16]))
    have e55 : a.tmps[55]? = some (.bool eb : Value) := (hs 55).trans (Eq.trans (b := some (x 25)) (by kernel_rfl) (by rw [d25]))
    clear d16 d25
    clear ht hs
    go_simp
    exact hK.out _ _ (Kp.refl _) rfl
  case se27 =>
    refine OpStepK.by_ ?_
    intro a x u ht hs hg hd K hK
    have d26 : (x 26) = .bool eb := And.left hd
    clear hd
    refine OpGoal.live (wanted_free (by kernel_rfl)) ?_
    have e56 : a.eval (Operand.tmp 56) = (.bool eb : Value) := (ht 56).trans (Eq.trans (b := x 26) (by kernel_rfl) d26)
    clear d26
    clear ht hs
    refine BigFrame.wp_assign _ rfl ?_
    exact hK.out _ _ (Kp.refl _) e56
  intro x u hg he
  have d0 : (x 0) = .slice (some ⟨b, off, none⟩) n cc := And.left he
  have d1 : (x 1) = .pointer (some ⟨b, off, none⟩) := And.left (And.right he)
  have d2 : (x 2) = .pointer (some ⟨b, off, none⟩) := And.left (And.right (And.right he))
  have d3 : (x 3) = .int .i64 xk := And.left (And.right (And.right (And.right he)))
  have d4 : (x 4) = .pointer (some ⟨tb, 0, none⟩) := And.left (And.right (And.right (And.right (And.right he))))
  have d5 : (x 5) = .int .i64 tk := And.left (And.right (And.right (And.right (And.right (And.right he)))))
  have d6 : (x 6) = .bool true := And.left (And.right (And.right (And.right (And.right (And.right (And.right he))))))
  have d7 : (x 7) = .bool true := And.left (And.right (And.right (And.right (And.right (And.right (And.right (And.right he)))))))
  have d8 : (x 8) = .slice (some ⟨b, off, none⟩) n cc := And.left (And.right (And.right (And.right (And.right (And.right (And.right (And.right (And.right he))))))))
  have d9 : (x 9) = .pointer (some ⟨b, off, none⟩) := And.left (And.right (And.right (And.right (And.right (And.right (And.right (And.right (And.right (And.right he)))))))))
  have d10 : (x 10) = .pointer (some ⟨b, off + 1, none⟩) := And.left (And.right (And.right (And.right (And.right (And.right (And.right (And.right (And.right (And.right (And.right he))))))))))
  have d11 : (x 11) = .string xt := And.left (And.right (And.right (And.right (And.right (And.right (And.right (And.right (And.right (And.right (And.right (And.right he)))))))))))
  have d12 : (x 12) = .pointer (some ⟨tb, 1, none⟩) := And.left (And.right (And.right (And.right (And.right (And.right (And.right (And.right (And.right (And.right (And.right (And.right (And.right he))))))))))))
  have d13 : (x 13) = .string tt := And.left (And.right (And.right (And.right (And.right (And.right (And.right (And.right (And.right (And.right (And.right (And.right (And.right (And.right he)))))))))))))
  have d14 : (x 14) = .bool true := And.left (And.right (And.right (And.right (And.right (And.right (And.right (And.right (And.right (And.right (And.right (And.right (And.right (And.right (And.right he))))))))))))))
  have d15 : (x 15) = .bool true := And.left (And.right (And.right (And.right (And.right (And.right (And.right (And.right (And.right (And.right (And.right (And.right (And.right (And.right (And.right (And.right he)))))))))))))))
  have d16 : (x 16) = .bool true := And.left (And.right (And.right (And.right (And.right (And.right (And.right (And.right (And.right (And.right (And.right (And.right (And.right (And.right (And.right (And.right (And.right he))))))))))))))))
  have d17 : (x 17) = .slice (some ⟨b, off, none⟩) n cc := And.left (And.right (And.right (And.right (And.right (And.right (And.right (And.right (And.right (And.right (And.right (And.right (And.right (And.right (And.right (And.right (And.right (And.right he)))))))))))))))))
  have d18 : (x 18) = .int .i64 (n : Int) := And.left (And.right (And.right (And.right (And.right (And.right (And.right (And.right (And.right (And.right (And.right (And.right (And.right (And.right (And.right (And.right (And.right (And.right (And.right he))))))))))))))))))
  have d19 : (x 19) = .bool false := And.left (And.right (And.right (And.right (And.right (And.right (And.right (And.right (And.right (And.right (And.right (And.right (And.right (And.right (And.right (And.right (And.right (And.right (And.right (And.right he)))))))))))))))))))
  have d20 : (x 20) = .bool false := And.left (And.right (And.right (And.right (And.right (And.right (And.right (And.right (And.right (And.right (And.right (And.right (And.right (And.right (And.right (And.right (And.right (And.right (And.right (And.right (And.right he))))))))))))))))))))
  have d21 : (x 21) = .slice (some ⟨b, off, none⟩) n cc := And.left (And.right (And.right (And.right (And.right (And.right (And.right (And.right (And.right (And.right (And.right (And.right (And.right (And.right (And.right (And.right (And.right (And.right (And.right (And.right (And.right (And.right he)))))))))))))))))))))
  have d22 : (x 22) = .pointer (some ⟨b, off, none⟩) := And.left (And.right (And.right (And.right (And.right (And.right (And.right (And.right (And.right (And.right (And.right (And.right (And.right (And.right (And.right (And.right (And.right (And.right (And.right (And.right (And.right (And.right (And.right he))))))))))))))))))))))
  have d23 : (x 23) = .agg #[.int .i64 xk, .string xt, .int .i64 xl, .int .i64 xc] := And.left (And.right (And.right (And.right (And.right (And.right (And.right (And.right (And.right (And.right (And.right (And.right (And.right (And.right (And.right (And.right (And.right (And.right (And.right (And.right (And.right (And.right (And.right (And.right he)))))))))))))))))))))))
  have d24 : (x 24) = .bool eb := And.left (And.right (And.right (And.right (And.right (And.right (And.right (And.right (And.right (And.right (And.right (And.right (And.right (And.right (And.right (And.right (And.right (And.right (And.right (And.right (And.right (And.right (And.right (And.right (And.right he))))))))))))))))))))))))
  have d25 : (x 25) = .bool eb := And.left (And.right (And.right (And.right (And.right (And.right (And.right (And.right (And.right (And.right (And.right (And.right (And.right (And.right (And.right (And.right (And.right (And.right (And.right (And.right (And.right (And.right (And.right (And.right (And.right (And.right he)))))))))))))))))))))))))
  have d26 : (x 26) = .bool eb := And.left (And.right (And.right (And.right (And.right (And.right (And.right (And.right (And.right (And.right (And.right (And.right (And.right (And.right (And.right (And.right (And.right (And.right (And.right (And.right (And.right (And.right (And.right (And.right (And.right (And.right (And.right he))))))))))))))))))))))))))
  have d27 : (x 27) = .bool eb := And.left (And.right (And.right (And.right (And.right (And.right (And.right (And.right (And.right (And.right (And.right (And.right (And.right (And.right (And.right (And.right (And.right (And.right (And.right (And.right (And.right (And.right (And.right (And.right (And.right (And.right (And.right (And.right he)))))))))))))))))))))))))))
  clear he
  refine ⟨?_⟩
  simp only [putsFrom, Act.put, List.setIfInBounds_toArray, List.set_cons_zero, List.set_cons_succ, Nat.reduceAdd, d0, d1, d2, d3, d4, d5, d6, d7, d8, d9, d10, d11, d12, d13, d14, d15, d16, d17, d18, d19, d20, d21, d22, d23, d24, d25, d26, d27]
  clear d0 d1 d2 d3 d4 d5 d6 d7 d8 d9 d10 d11 d12 d13 d14 d15 d16 d17 d18 d19 d20 d21 d22 d23 d24 d25 d26 d27
  exact hE _ hg

/-- What whole answers. -/
def WhoP (t : TokenM) (w : World) (e : Ending) (w' : World) : Prop := ((WholeP t ∧ e = .returned (.bool true)) ∨ (¬ WholeP t ∧ e = .returned (.bool false))) ∧ Kp w w'
theorem str_eq {a b : ByteArray} : (a.toList == b.toList) = true ↔ a = b := by
  rw [beq_iff_eq, ByteArray.toList_eq, ByteArray.toList_eq]
  constructor
  · intro h; exact (bytes_eq h).trans (bytes_eq rfl).symm
  · rintro rfl; rfl
theorem str_ne {a b : ByteArray} (h : a ≠ b) : (a.toList == b.toList) = false := by
  cases hc : (a.toList == b.toList) with
  | false => rfl
  | true => exact absurd (str_eq.1 hc) h
set_option maxRecDepth 20000 in
set_option maxHeartbeats 8000000 in
theorem whole_any (t : TokenM) (w : World) (hs : t.text.size ≤ 140737488351232) : Calls Try.prog 42 #[tokV t] w (WhoP t w) := by
  obtain ⟨k, s, l, c⟩ := t
  have HW := hid (rfl : WholeP ⟨k, s, l, c⟩ = WholeP ⟨k, s, l, c⟩)
  unfold tokV
  dsimp only at hs ⊢
  by_cases h6 : k = 6
  · have t6 : (k == 6) = true := by simp [h6]
    by_cases hse : s = semiB
    · have tl : (s.toList == [59]) = true := by rw [hse, ByteArray.toList_eq]; rfl
      have HY := hid (show WholeP ⟨k, s, l, c⟩ by unfold WholeP; rw [if_pos h6]; exact hse)
      clear h6 hse hs
      go_enter Try.func42, Try.ntmps42
      go_wp2
      go_ret
      exact ⟨.inl ⟨HY.out, rfl⟩, (Kp.refl _).alloc _⟩
    · have tl : (s.toList == [59]) = false := by
        have e : ([59] : Bs) = semiB.toList := by rw [ByteArray.toList_eq]; rfl
        rw [e]; exact str_ne hse
      have HY := hid (show ¬ WholeP ⟨k, s, l, c⟩ by unfold WholeP; rw [if_pos h6]; exact hse)
      clear h6 hse hs
      go_enter Try.func42, Try.ntmps42
      go_wp2
      go_ret
      exact ⟨.inr ⟨HY.out, rfl⟩, (Kp.refl _).alloc _⟩
  have t6 : (k == 6) = false := by simp [h6]
  have HWW := hid (show WholeP ⟨k, s, l, c⟩ ↔ ∃ l' x, ToksM s (.ok l') ∧ (l'.length = 1 ∨ l'.length = 2) ∧ l'[0]? = some x ∧ x.kind = k ∧ x.text = s ∧ (l'.length = 1 ∨ endsT x.kind x.text = true) by
    unfold WholeP; rw [if_neg h6])
  have HB := hid (blk_new w (Obj.cells #[.int .i64 k, .string s, .int .i64 l, .int .i64 c] 41))
  have HKA := hid (show Kp w (w.alloc (Obj.cells #[.int .i64 k, .string s, .int .i64 l, .int .i64 c] 41)) from (Kp.refl _).alloc _)
  clear h6
  go_enter Try.func42, Try.ntmps42
  go_wp2_with fail
  generalize (w.alloc (Obj.cells #[.int .i64 k, .string s, .int .i64 l, .int .i64 c] 41)) = W1 at HB HKA ⊢
  refine (toks_any W1 s hs).mono ?_
  rintro e w2 ⟨h1, hk1⟩
  have HK1 := hid hk1
  have HB2 := hid ((hk1.block _ (blk_lt HB.out)).trans HB.out)
  rcases h1 with ⟨l2, v, hT, rfl, ho⟩ | ⟨er, hT, e1, e2, rfl⟩
  · have HT := hid hT; have HO := hid (OwnL.rd ho)
    have HL2 := hid hT.placed.2.1
    obtain ⟨A, cc, rfl, _⟩ := (OwnL.rd ho).form
    have HAT := hid (fun l' (h : ToksM s (.ok l')) => (by have := h.det HT.out; injection this : l' = l2))
    clear hT ho hk1
    by_cases h0 : l2.length = 0
    · have t0 : ((l2.length : Int) == 0) = true := by rw [beq_iff_eq]; omega
      have HY := hid (show ¬ WholeP ⟨k, s, l, c⟩ by
        rw [HWW.out]; rintro ⟨l', x, h1, h2, _⟩
        rw [HAT.out l' h1] at h2; omega)
      clear h0
      go_wp2
      go_ret
      exact ⟨.inr ⟨HY.out, rfl⟩, HKA.out.trans (HK1.out.trans ((Kp.refl _).alloc _))⟩
    have t0 : ((l2.length : Int) == 0) = false := by rw [beq_eq_false_iff_ne]; omega
    by_cases h2 : 2 < l2.length
    · have t2 : (2 : Int) < (l2.length : Int) := by omega
      have HY := hid (show ¬ WholeP ⟨k, s, l, c⟩ by
        rw [HWW.out]; rintro ⟨l', x, h1, h3, _⟩
        rw [HAT.out l' h1] at h3; omega)
      clear h0 h2
      go_wp2
      go_ret
      exact ⟨.inr ⟨HY.out, rfl⟩, HKA.out.trans (HK1.out.trans ((Kp.refl _).alloc _))⟩
    have t2 : ¬ (2 : Int) < (l2.length : Int) := by omega
    obtain ⟨x, hx⟩ : ∃ x, l2[0]? = some x := ⟨_, List.getElem?_eq_getElem (by omega)⟩
    obtain ⟨b, off, rfl, hb, g0, g1, g2, g3, _⟩ := at_token HO.out hx
    rw [Nat.zero_mul, Nat.add_zero] at g0 g1 g2 g3
    have HWX := hid (show WholeP ⟨k, s, l, c⟩ ↔ x.kind = k ∧ x.text = s ∧ (l2.length = 1 ∨ endsT x.kind x.text = true) by
      rw [HWW.out]
      constructor
      · rintro ⟨l', x', h1, h3, h4, h5⟩
        rw [HAT.out l' h1] at h4 h5
        rw [hx] at h4
        injection h4 with h4
        subst h4
        exact h5
      · intro h
        exact ⟨l2, x, HT.out, by omega, hx, h⟩)
    have i0 : 0 < l2.length := by omega
    have i1 : (0 : Int) < (l2.length : Int) := by omega
    have HKB := hid (show Kp w2 (w2.alloc (Obj.cells #[.int .i64 0, .int .i64 0, .int .i64 0] 36)) from (Kp.refl _).alloc _)
    have HLL := hid (show l2.length = 1 ∨ l2.length = 2 by omega)
    have G0 := hid g0; have G1 := hid g1; have G2 := hid g2; have G3 := hid g3; have HBB := hid hb
    clear h0 h2 hx g0 g1 g2 g3
    go_upto_region 6 with fail
    generalize (w2.alloc (Obj.cells #[.int .i64 0, .int .i64 0, .int .i64 0] 36)) = W3 at HKB ⊢
    have htb := Nat.lt_of_lt_of_le (blk_lt HB2.out) HKB.out.le
    have hbb := Nat.lt_of_lt_of_le HBB.out HKB.out.le
    have X0 := cell_kp HKB.out HBB.out G0.out
    have X1 := cell_kp HKB.out HBB.out G1.out
    have X2 := cell_kp HKB.out HBB.out G2.out
    have X3 := cell_kp HKB.out HBB.out G3.out
    have T0 := cell_kp HKB.out (blk_lt HB2.out) (blk_cell (o := 0) (v := .int .i64 k) HB2.out rfl)
    have T1 := cell_kp HKB.out (blk_lt HB2.out) (blk_cell (o := 1) (v := .string s) HB2.out rfl)
    by_cases hk : x.kind = k
    · by_cases ht : x.text = s
      · by_cases hl1 : l2.length = 1
        · refine who_c b off l2.length cc _ x.kind k x.text s hbb htb X0 X1 T0 T1 i0 i1 (by rw [beq_iff_eq]; exact hk) (str_eq.2 ht) (by rw [beq_iff_eq]; omega) (fun u hg => ?_)
          have HG := hid hg
          have HY := hid (HWX.out.2 ⟨hk, ht, .inl hl1⟩)
          clear hg X0 X1 X2 X3 T0 T1 hk ht hl1
          go_wp2
          go_ret
          exact ⟨.inl ⟨HY.out, rfl⟩, HKA.out.trans (HK1.out.trans (HKB.out.trans HG.out))⟩
        · cases he : endsT x.kind x.text with
          | true =>
            refine who_d b off l2.length cc _ x.kind k x.text s hbb htb X0 X1 T0 T1 i0 i1 (by rw [beq_iff_eq]; exact hk) (str_eq.2 ht) (by rw [beq_eq_false_iff_ne]; omega) x.line x.col true he X2 X3 (fun u hg => ?_)
            have HG := hid hg
            have HY := hid (HWX.out.2 ⟨hk, ht, .inr he⟩)
            clear hg X0 X1 X2 X3 T0 T1 hk ht hl1 he
            go_wp2
            go_ret
            exact ⟨.inl ⟨HY.out, rfl⟩, HKA.out.trans (HK1.out.trans (HKB.out.trans HG.out))⟩
          | false =>
            refine who_d b off l2.length cc _ x.kind k x.text s hbb htb X0 X1 T0 T1 i0 i1 (by rw [beq_iff_eq]; exact hk) (str_eq.2 ht) (by rw [beq_eq_false_iff_ne]; omega) x.line x.col false he X2 X3 (fun u hg => ?_)
            have HG := hid hg
            have HY := hid (show ¬ WholeP ⟨k, s, l, c⟩ by
              rw [HWX.out]; rintro ⟨_, _, h3 | h3⟩
              · exact hl1 h3
              · rw [he] at h3; cases h3)
            clear hg X0 X1 X2 X3 T0 T1 hk ht hl1 he
            go_wp2
            go_ret
            exact ⟨.inr ⟨HY.out, rfl⟩, HKA.out.trans (HK1.out.trans (HKB.out.trans HG.out))⟩
      · refine who_b b off l2.length cc _ x.kind k x.text s hbb htb X0 X1 T0 T1 i0 i1 (by rw [beq_iff_eq]; exact hk) (str_ne ht) (fun u hg => ?_)
        have HG := hid hg
        have HY := hid (show ¬ WholeP ⟨k, s, l, c⟩ by rw [HWX.out]; rintro ⟨_, h3, _⟩; exact ht h3)
        clear hg X0 X1 X2 X3 T0 T1 hk ht
        go_wp2
        go_ret
        exact ⟨.inr ⟨HY.out, rfl⟩, HKA.out.trans (HK1.out.trans (HKB.out.trans HG.out))⟩
    · refine who_a b off l2.length cc _ x.kind k x.text s hbb htb X0 X1 T0 T1 i0 i1 (by rw [beq_eq_false_iff_ne]; exact hk) (fun u hg => ?_)
      have HG := hid hg
      have HY := hid (show ¬ WholeP ⟨k, s, l, c⟩ by rw [HWX.out]; rintro ⟨h3, _⟩; exact hk h3)
      clear hg X0 X1 X2 X3 T0 T1 hk
      go_wp2
      go_ret
      exact ⟨.inr ⟨HY.out, rfl⟩, HKA.out.trans (HK1.out.trans (HKB.out.trans HG.out))⟩
  · have t0 : (er.1 != 0) = true := by rw [bne_iff_ne]; omega
    have HY := hid (show ¬ WholeP ⟨k, s, l, c⟩ by
      rw [HWW.out]; rintro ⟨l', x, h1, _⟩
      have := h1.det hT
      cases this)
    clear hT e1 e2 hk1
    go_wp2
    go_ret
    exact ⟨.inr ⟨HY.out, rfl⟩, HKA.out.trans (HK1.out.trans ((Kp.refl _).alloc _))⟩
end Go.Proofs.Ytlfgofjmcegeiaa
