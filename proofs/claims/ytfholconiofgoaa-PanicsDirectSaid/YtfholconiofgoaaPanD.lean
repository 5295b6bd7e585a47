/-
  The two regions of the law PanicsDirect that draw their order. No condition.
-/
import Derived.Test.YtfholconiofgoaaPanL
import Derived.Test.YtfholconiofgoaaSame
import Derived.Test.YtfholconiofgoaaRegF
namespace Go.Proofs.Ytfholconiofgoaa
open Go.RowKit
set_option linter.unusedVariables false
set_option linter.unusedSimpArgs false

theorem same_self (m : ValM) : sameM m m = true := by
  unfold sameM
  rw [if_neg (by simp)]
  split
  · simp
  · split
    · simp
    · split
      · simp
      · split
        · simp
        · rfl
theorem val_at {w : World} (A : Option Addr) (c : Nat) {m : ValM} (h1 : okI m.k) (h2 : okI m.n) (h3 : m.s.size ≤ 140737488351232) (h4 : m.l = []) : RdVal w (.agg #[.int .i64 m.k, .int .i64 m.n, .string m.s, .slice A 0 c]) m :=
  ⟨_, rfl, by rw [h4]; exact ⟨by simp, by simp, A, c, rfl, by simp, fun h => by simp at h⟩, h1, h2, h3, by rw [h4]; simp⟩
theorem same_two {w : World} {A B : Option Addr} {c d : Nat} {m : ValM} (h1 : okI m.k) (h2 : okI m.n) (h3 : m.s.size ≤ 140737488351232) (h4 : m.l = []) : Calls Try.prog 20 #[.agg #[.int .i64 m.k, .int .i64 m.n, .string m.s, .slice A 0 c], .agg #[.int .i64 m.k, .int .i64 m.n, .string m.s, .slice B 0 d]] w fun e w' => e = .returned (.bool true) ∧ Kp w w' := by
  have h := same_any _ _ m m w (val_at A c h1 h2 h3 h4) (val_at B d h1 h2 h3 h4)
  rw [same_self] at h
  exact h
set_option maxRecDepth 20000 in
set_option maxHeartbeats 4000000 in
theorem dir12_not {W : World} {Q : Exit → Act → World → Prop} {s0 s1 s2 s3 s4 s5 s6 s10 s11 s12 s13 s14 s15 s16 s17 s18 s19 s20 s21 s22 s23 s24 s25 s26 s27 s28 s29 s30 s31 s32 s33 s34 s35 s36 s37 s38 s39 s40 s41 s42 s43 s44 s45 s46 s47 s48 s49 s50 s51 s52 s53 s54 s55 s56 s57 s58 s59 s60 s61 s62 s63 s64 s65 s66 s67 s68 s69 s70 s71 s72 s73 s74 s75 s76 s77 s78 s79 s80 s81 s82 s83 s84 s85 s86 s87 s88 s89 s90 s91 s92 s93 s94 s95 s96 s97 s98 s99 s100 s101 s102 s103 s104 s105 s106 s107 s108 s109 s110 s111 s112 s113 : Value} (bs bf pb po mp m1 cP : Nat) (fm fp qs : Int) (hb1 : bs < W.heap.size) (hb2 : bf < W.heap.size) (hb3 : pb < W.heap.size) (Z1 : W.cell? ⟨bs, 1, none⟩ = some (.slice (some ⟨pb, po, none⟩) mp cP)) (F1 : W.cell? ⟨bf, 1, none⟩ = some (.int .i64 fm)) (F2 : W.cell? ⟨bf, 2, none⟩ = some (.int .i64 fp)) (t2 : (fm == 2) = false)
    (hE : ∀ u, Kp W u → Q .normal { tmps := #[s0, s1, s2, s3, s4, s5, s6, .pointer (some ⟨bs, 0, none⟩), .pointer (some ⟨bf, 0, none⟩), .int .i64 (m1 : Int), .bool false, s11, s12, s13, s14, s15, s16, s17, s18, s19, s20, s21, s22, s23, s24, s25, s26, s27, s28, s29, s30, s31, s32, s33, s34, s35, s36, s37, s38, s39, s40, s41, s42, s43, s44, s45, s46, s47, s48, .pointer (some ⟨bf, 1, none⟩), .int .i64 fm, .bool false, .bool false, undef, undef, .bool false, .bool false, undef, undef, undef, undef, undef, undef, undef, undef, undef, .bool false, .bool false, undef, undef, undef, undef, undef, undef, undef, .bool false, s76, s77, s78, s79, s80, s81, s82, s83, s84, s85, s86, s87, s88, s89, s90, s91, s92, s93, s94, s95, s96, s97, s98, s99, s100, s101, s102, s103, s104, s105, s106, s107, s108, s109, s110, s111, s112, s113], defers := [] } u) :
    (Code.region 12 (regArr Try.f10 12) true).wp Try.prog Q { tmps := #[s0, s1, s2, s3, s4, s5, s6, .pointer (some ⟨bs, 0, none⟩), .pointer (some ⟨bf, 0, none⟩), .int .i64 (m1 : Int), s10, s11, s12, s13, s14, s15, s16, s17, s18, s19, s20, s21, s22, s23, s24, s25, s26, s27, s28, s29, s30, s31, s32, s33, s34, s35, s36, s37, s38, s39, s40, s41, s42, s43, s44, s45, s46, s47, s48, s49, s50, s51, s52, s53, s54, s55, s56, s57, s58, s59, s60, s61, s62, s63, s64, s65, s66, s67, s68, s69, s70, s71, s72, s73, s74, s75, s76, s77, s78, s79, s80, s81, s82, s83, s84, s85, s86, s87, s88, s89, s90, s91, s92, s93, s94, s95, s96, s97, s98, s99, s100, s101, s102, s103, s104, s105, s106, s107, s108, s109, s110, s111, s112, s113], defers := [] } W := by
  simp only [regArr, Try.f10, Option.map_some, Option.getD_some, regOf, if_true, if_false, List.append_nil, List.nil_append, List.toList_toArray, Nat.reduceEqDiff, reduceIte]
  refine wp_region_kp [[], [0], [1], [2], [3], [3, 4], [3, 5], [6], [7], [7, 8], [7], [7, 9, 10], [7, 11], [7, 12], [7], [7, 14], [7, 13, 15], [7, 16], [17], [18], [18, 19], [18], [18, 20, 21], [18, 22], [18, 23], [18, 24], [18, 25], [26]] (fun u => Kp W u)
    [fun (y : Value) (u : World) => y = (.pointer (some ⟨bf, 1, none⟩) : Value),
     fun (y : Value) (u : World) => y = (.int .i64 fm : Value),
     fun (y : Value) (u : World) => y = (.bool false : Value),
     fun (y : Value) (u : World) => y = (.bool false : Value),
     fun (y : Value) (u : World) => y = (undef : Value),
     fun (y : Value) (u : World) => y = (undef : Value),
     fun (y : Value) (u : World) => y = (.bool false : Value),
     fun (y : Value) (u : World) => y = (.bool false : Value),
     fun (y : Value) (u : World) => y = (undef : Value),
     fun (y : Value) (u : World) => y = (undef : Value),
     fun (y : Value) (u : World) => y = (undef : Value),
     fun (y : Value) (u : World) => y = (undef : Value),
     fun (y : Value) (u : World) => y = (undef : Value),
     fun (y : Value) (u : World) => y = (undef : Value),
     fun (y : Value) (u : World) => y = (undef : Value),
     fun (y : Value) (u : World) => y = (undef : Value),
     fun (y : Value) (u : World) => y = (undef : Value),
     fun (y : Value) (u : World) => y = (.bool false : Value),
     fun (y : Value) (u : World) => y = (.bool false : Value),
     fun (y : Value) (u : World) => y = (undef : Value),
     fun (y : Value) (u : World) => y = (undef : Value),
     fun (y : Value) (u : World) => y = (undef : Value),
     fun (y : Value) (u : World) => y = (undef : Value),
     fun (y : Value) (u : World) => y = (undef : Value),
     fun (y : Value) (u : World) => y = (undef : Value),
     fun (y : Value) (u : World) => y = (undef : Value),
     fun (y : Value) (u : World) => y = (.bool false : Value),
     fun (y : Value) (u : World) => y = (.bool false : Value)]
    (by kernel_rfl) (by kernel_rfl) (by kernel_rfl) (by kernel_rfl) ((Kp.refl _).drew) (fun _ _ hk h => h.trans hk) ⟨fun _ _ _ _ h => h, fun _ _ _ _ h => h, fun _ _ _ _ h => h, fun _ _ _ _ h => h, fun _ _ _ _ h => h, fun _ _ _ _ h => h, fun _ _ _ _ h => h, fun _ _ _ _ h => h, fun _ _ _ _ h => h, fun _ _ _ _ h => h, fun _ _ _ _ h => h, fun _ _ _ _ h => h, fun _ _ _ _ h => h, fun _ _ _ _ h => h, fun _ _ _ _ h => h, fun _ _ _ _ h => h, fun _ _ _ _ h => h, fun _ _ _ _ h => h, fun _ _ _ _ h => h, fun _ _ _ _ h => h, fun _ _ _ _ h => h, fun _ _ _ _ h => h, fun _ _ _ _ h => h, fun _ _ _ _ h => h, fun _ _ _ _ h => h, fun _ _ _ _ h => h, fun _ _ _ _ h => h, fun _ _ _ _ h => h, trivial⟩ ⟨?sb0, ?sb1, ?sb2, ?sb3, ?sb4, ?sb5, ?sb6, ?sb7, ?sb8, ?sb9, ?sb10, ?sb11, ?sb12, ?sb13, ?sb14, ?sb15, ?sb16, ?sb17, ?sb18, ?sb19, ?sb20, ?sb21, ?sb22, ?sb23, ?sb24, ?sb25, ?sb26, ?sb27, trivial⟩ ?hEb
  case sb0 =>
    refine OpStepK.by_ ?_
    intro a x u ht hs hg hd K hK
    clear hd
    refine OpGoal.live (wanted_free (by kernel_rfl)) ?_
    have e8 : a.tmps[8]? = some (.pointer (some ⟨bf, 0, none⟩) : Value) := (hs 8).trans (by kernel_rfl)
    clear ht hs
    go_simp
    exact hK.out _ _ (Kp.refl _) rfl
  case sb1 =>
    refine OpStepK.by_ ?_
    intro a x u ht hs hg hd K hK
    have d0 : (x 0) = .pointer (some ⟨bf, 1, none⟩) := And.left hd
    clear hd
    refine OpGoal.live (wanted_free (by kernel_rfl)) ?_
    have e49 : a.tmps[49]? = some (.pointer (some ⟨bf, 1, none⟩) : Value) := (hs 49).trans (Eq.trans (b := some (x 0)) (by kernel_rfl) (by rw [d0]))
    clear d0
    clear ht hs
    have q0 := cell_kp hg hb2 F1
    go_simp
    exact hK.out _ _ (Kp.refl _) rfl
  case sb2 =>
    refine OpStepK.by_ ?_
    intro a x u ht hs hg hd K hK
    have d1 : (x 1) = .int .i64 fm := And.left hd
    clear hd
    refine OpGoal.live (wanted_free (by kernel_rfl)) ?_
    have e50 : a.tmps[50]? = some (.int .i64 fm : Value) := (hs 50).trans (Eq.trans (b := some (x 1)) (by kernel_rfl) (by rw [d1]))
    clear d1
    clear ht hs
    go_simp
    exact hK.out _ _ (Kp.refl _) rfl
  case sb3 =>
    refine OpStepK.by_ ?_
    intro a x u ht hs hg hd K hK
    have d2 : (x 2) = .bool false := And.left hd
    clear hd
    refine OpGoal.live (wanted_free (by kernel_rfl)) ?_
    have e51 : a.eval (Operand.tmp 51) = (.bool false : Value) := (ht 51).trans (Eq.trans (b := x 2) (by kernel_rfl) d2)
    clear d2
    clear ht hs
    refine BigFrame.wp_move _ rfl ?_
    exact hK.out _ _ (Kp.refl _) e51
  case sb4 =>
    refine OpStepK.by_ ?_
    intro a x u ht hs hg hd K hK
    have d3 : (x 3) = .bool false := And.left hd
    clear hd
    refine OpGoal.dead (wanted_no (j := 3) (d := 52) (b := true) (c := false) (by kernel_rfl) (by kernel_rfl) ((hs 52).trans (Eq.trans (b := some (x 3)) (by kernel_rfl) (by rw [d3]))) (by decide)) ?_
    exact hK.out _ _ (Kp.refl _) rfl
  case sb5 =>
    refine OpStepK.by_ ?_
    intro a x u ht hs hg hd K hK
    have d3 : (x 3) = .bool false := And.left hd
    have d4 : (x 4) = undef := And.left (And.right hd)
    clear hd
    refine OpGoal.dead (wanted_no (j := 3) (d := 52) (b := true) (c := false) (by kernel_rfl) (by kernel_rfl) ((hs 52).trans (Eq.trans (b := some (x 3)) (by kernel_rfl) (by rw [d3]))) (by decide)) ?_
    exact hK.out _ _ (Kp.refl _) rfl
  case sb6 =>
    refine OpStepK.by_ ?_
    intro a x u ht hs hg hd K hK
    have d3 : (x 3) = .bool false := And.left hd
    have d5 : (x 5) = undef := And.left (And.right hd)
    clear hd
    refine OpGoal.live (wanted_free (by kernel_rfl)) ?_
    have e52 : a.tmps[52]? = some (.bool false : Value) := (hs 52).trans (Eq.trans (b := some (x 3)) (by kernel_rfl) (by rw [d3]))
    have e54 : a.tmps[54]? = some (undef : Value) := (hs 54).trans (Eq.trans (b := some (x 5)) (by kernel_rfl) (by rw [d5]))
    clear d3 d5
    clear ht hs
    go_simp
    exact hK.out _ _ (Kp.refl _) rfl
  case sb7 =>
    refine OpStepK.by_ ?_
    intro a x u ht hs hg hd K hK
    have d6 : (x 6) = .bool false := And.left hd
    clear hd
    refine OpGoal.live (wanted_free (by kernel_rfl)) ?_
    have e55 : a.eval (Operand.tmp 55) = (.bool false : Value) := (ht 55).trans (Eq.trans (b := x 6) (by kernel_rfl) d6)
    clear d6
    clear ht hs
    refine BigFrame.wp_move _ rfl ?_
    exact hK.out _ _ (Kp.refl _) e55
  case sb8 =>
    refine OpStepK.by_ ?_
    intro a x u ht hs hg hd K hK
    have d7 : (x 7) = .bool false := And.left hd
    clear hd
    refine OpGoal.dead (wanted_no (j := 7) (d := 56) (b := true) (c := false) (by kernel_rfl) (by kernel_rfl) ((hs 56).trans (Eq.trans (b := some (x 7)) (by kernel_rfl) (by rw [d7]))) (by decide)) ?_
    exact hK.out _ _ (Kp.refl _) rfl
  case sb9 =>
    refine OpStepK.by_ ?_
    intro a x u ht hs hg hd K hK
    have d7 : (x 7) = .bool false := And.left hd
    have d8 : (x 8) = undef := And.left (And.right hd)
    clear hd
    refine OpGoal.dead (wanted_no (j := 7) (d := 56) (b := true) (c := false) (by kernel_rfl) (by kernel_rfl) ((hs 56).trans (Eq.trans (b := some (x 7)) (by kernel_rfl) (by rw [d7]))) (by decide)) ?_
    exact hK.out _ _ (Kp.refl _) rfl
  case sb10 =>
    refine OpStepK.by_ ?_
    intro a x u ht hs hg hd K hK
    have d7 : (x 7) = .bool false := And.left hd
    clear hd
    refine OpGoal.dead (wanted_no (j := 7) (d := 56) (b := true) (c := false) (by kernel_rfl) (by kernel_rfl) ((hs 56).trans (Eq.trans (b := some (x 7)) (by kernel_rfl) (by rw [d7]))) (by decide)) ?_
    exact hK.out _ _ (Kp.refl _) rfl
  case sb11 =>
    refine OpStepK.by_ ?_
    intro a x u ht hs hg hd K hK
    have d7 : (x 7) = .bool false := And.left hd
    have d9 : (x 9) = undef := And.left (And.right hd)
    have d10 : (x 10) = undef := And.left (And.right (And.right hd))
    clear hd
    refine OpGoal.dead (wanted_no (j := 7) (d := 56) (b := true) (c := false) (by kernel_rfl) (by kernel_rfl) ((hs 56).trans (Eq.trans (b := some (x 7)) (by kernel_rfl) (by rw [d7]))) (by decide)) ?_
    exact hK.out _ _ (Kp.refl _) rfl
  case sb12 =>
    refine OpStepK.by_ ?_
    intro a x u ht hs hg hd K hK
    have d7 : (x 7) = .bool false := And.left hd
    have d11 : (x 11) = undef := And.left (And.right hd)
    clear hd
    refine OpGoal.dead (wanted_no (j := 7) (d := 56) (b := true) (c := false) (by kernel_rfl) (by kernel_rfl) ((hs 56).trans (Eq.trans (b := some (x 7)) (by kernel_rfl) (by rw [d7]))) (by decide)) ?_
    exact hK.out _ _ (Kp.refl _) rfl
  case sb13 =>
    refine OpStepK.by_ ?_
    intro a x u ht hs hg hd K hK
    have d7 : (x 7) = .bool false := And.left hd
    have d12 : (x 12) = undef := And.left (And.right hd)
    clear hd
    refine OpGoal.dead (wanted_no (j := 7) (d := 56) (b := true) (c := false) (by kernel_rfl) (by kernel_rfl) ((hs 56).trans (Eq.trans (b := some (x 7)) (by kernel_rfl) (by rw [d7]))) (by decide)) ?_
    exact hK.out _ _ (Kp.refl _) rfl
  case sb14 =>
    refine OpStepK.by_ ?_
    intro a x u ht hs hg hd K hK
    have d7 : (x 7) = .bool false := And.left hd
    clear hd
    refine OpGoal.dead (wanted_no (j := 7) (d := 56) (b := true) (c := false) (by kernel_rfl) (by kernel_rfl) ((hs 56).trans (Eq.trans (b := some (x 7)) (by kernel_rfl) (by rw [d7]))) (by decide)) ?_
    exact hK.out _ _ (Kp.refl _) rfl
  case sb15 =>
    refine OpStepK.by_ ?_
    intro a x u ht hs hg hd K hK
    have d7 : (x 7) = .bool false := And.left hd
    have d14 : (x 14) = undef := And.left (And.right hd)
    clear hd
    refine OpGoal.dead (wanted_no (j := 7) (d := 56) (b := true) (c := false) (by kernel_rfl) (by kernel_rfl) ((hs 56).trans (Eq.trans (b := some (x 7)) (by kernel_rfl) (by rw [d7]))) (by decide)) ?_
    exact hK.out _ _ (Kp.refl _) rfl
  case sb16 =>
    refine OpStepK.by_ ?_
    intro a x u ht hs hg hd K hK
    have d7 : (x 7) = .bool false := And.left hd
    have d13 : (x 13) = undef := And.left (And.right hd)
    have d15 : (x 15) = undef := And.left (And.right (And.right hd))
    clear hd
    refine OpGoal.dead (wanted_no (j := 7) (d := 56) (b := true) (c := false) (by kernel_rfl) (by kernel_rfl) ((hs 56).trans (Eq.trans (b := some (x 7)) (by kernel_rfl) (by rw [d7]))) (by decide)) ?_
    exact hK.out _ _ (Kp.refl _) rfl
  case sb17 =>
    refine OpStepK.by_ ?_
    intro a x u ht hs hg hd K hK
    have d7 : (x 7) = .bool false := And.left hd
    have d16 : (x 16) = undef := And.left (And.right hd)
    clear hd
    refine OpGoal.live (wanted_free (by kernel_rfl)) ?_
    have e56 : a.tmps[56]? = some (.bool false : Value) := (hs 56).trans (Eq.trans (b := some (x 7)) (by kernel_rfl) (by rw [d7]))
    have e65 : a.tmps[65]? = some (undef : Value) := (hs 65).trans (Eq.trans (b := some (x 16)) (by kernel_rfl) (by rw [d16]))
    clear d7 d16
    clear ht hs
    go_simp
    exact hK.out _ _ (Kp.refl _) rfl
  case sb18 =>
    refine OpStepK.by_ ?_
    intro a x u ht hs hg hd K hK
    have d17 : (x 17) = .bool false := And.left hd
    clear hd
    refine OpGoal.live (wanted_free (by kernel_rfl)) ?_
    have e66 : a.eval (Operand.tmp 66) = (.bool false : Value) := (ht 66).trans (Eq.trans (b := x 17) (by kernel_rfl) d17)
    clear d17
    clear ht hs
    refine BigFrame.wp_move _ rfl ?_
    exact hK.out _ _ (Kp.refl _) e66
  case sb19 =>
    refine OpStepK.by_ ?_
    intro a x u ht hs hg hd K hK
    have d18 : (x 18) = .bool false := And.left hd
    clear hd
    refine OpGoal.dead (wanted_no (j := 18) (d := 67) (b := true) (c := false) (by kernel_rfl) (by kernel_rfl) ((hs 67).trans (Eq.trans (b := some (x 18)) (by kernel_rfl) (by rw [d18]))) (by decide)) ?_
    exact hK.out _ _ (Kp.refl _) rfl
  case sb20 =>
    refine OpStepK.by_ ?_
    intro a x u ht hs hg hd K hK
    have d18 : (x 18) = .bool false := And.left hd
    have d19 : (x 19) = undef := And.left (And.right hd)
    clear hd
    refine OpGoal.dead (wanted_no (j := 18) (d := 67) (b := true) (c := false) (by kernel_rfl) (by kernel_rfl) ((hs 67).trans (Eq.trans (b := some (x 18)) (by kernel_rfl) (by rw [d18]))) (by decide)) ?_
    exact hK.out _ _ (Kp.refl _) rfl
  case sb21 =>
    refine OpStepK.by_ ?_
    intro a x u ht hs hg hd K hK
    have d18 : (x 18) = .bool false := And.left hd
    clear hd
    refine OpGoal.dead (wanted_no (j := 18) (d := 67) (b := true) (c := false) (by kernel_rfl) (by kernel_rfl) ((hs 67).trans (Eq.trans (b := some (x 18)) (by kernel_rfl) (by rw [d18]))) (by decide)) ?_
    exact hK.out _ _ (Kp.refl _) rfl
  case sb22 =>
    refine OpStepK.by_ ?_
    intro a x u ht hs hg hd K hK
    have d18 : (x 18) = .bool false := And.left hd
    have d20 : (x 20) = undef := And.left (And.right hd)
    have d21 : (x 21) = undef := And.left (And.right (And.right hd))
    clear hd
    refine OpGoal.dead (wanted_no (j := 18) (d := 67) (b := true) (c := false) (by kernel_rfl) (by kernel_rfl) ((hs 67).trans (Eq.trans (b := some (x 18)) (by kernel_rfl) (by rw [d18]))) (by decide)) ?_
    exact hK.out _ _ (Kp.refl _) rfl
  case sb23 =>
    refine OpStepK.by_ ?_
    intro a x u ht hs hg hd K hK
    have d18 : (x 18) = .bool false := And.left hd
    have d22 : (x 22) = undef := And.left (And.right hd)
    clear hd
    refine OpGoal.dead (wanted_no (j := 18) (d := 67) (b := true) (c := false) (by kernel_rfl) (by kernel_rfl) ((hs 67).trans (Eq.trans (b := some (x 18)) (by kernel_rfl) (by rw [d18]))) (by decide)) ?_
    exact hK.out _ _ (Kp.refl _) rfl
  case sb24 =>
    refine OpStepK.by_ ?_
    intro a x u ht hs hg hd K hK
    have d18 : (x 18) = .bool false := And.left hd
    have d23 : (x 23) = undef := And.left (And.right hd)
    clear hd
    refine OpGoal.dead (wanted_no (j := 18) (d := 67) (b := true) (c := false) (by kernel_rfl) (by kernel_rfl) ((hs 67).trans (Eq.trans (b := some (x 18)) (by kernel_rfl) (by rw [d18]))) (by decide)) ?_
    exact hK.out _ _ (Kp.refl _) rfl
  case sb25 =>
    refine OpStepK.by_ ?_
    intro a x u ht hs hg hd K hK
    have d18 : (x 18) = .bool false := And.left hd
    have d24 : (x 24) = undef := And.left (And.right hd)
    clear hd
    refine OpGoal.dead (wanted_no (j := 18) (d := 67) (b := true) (c := false) (by kernel_rfl) (by kernel_rfl) ((hs 67).trans (Eq.trans (b := some (x 18)) (by kernel_rfl) (by rw [d18]))) (by decide)) ?_
    exact hK.out _ _ (Kp.refl _) rfl
  case sb26 =>
    refine OpStepK.by_ ?_
    intro a x u ht hs hg hd K hK
    have d18 : (x 18) = .bool false := And.left hd
    have d25 : (x 25) = undef := And.left (And.right hd)
    clear hd
    refine OpGoal.live (wanted_free (by kernel_rfl)) ?_
    have e67 : a.tmps[67]? = some (.bool false : Value) := (hs 67).trans (Eq.trans (b := some (x 18)) (by kernel_rfl) (by rw [d18]))
    have e74 : a.tmps[74]? = some (undef : Value) := (hs 74).trans (Eq.trans (b := some (x 25)) (by kernel_rfl) (by rw [d25]))
    clear d18 d25
    clear ht hs
    go_simp
    exact hK.out _ _ (Kp.refl _) rfl
  case sb27 =>
    refine OpStepK.by_ ?_
    intro a x u ht hs hg hd K hK
    have d26 : (x 26) = .bool false := And.left hd
    clear hd
    refine OpGoal.live (wanted_free (by kernel_rfl)) ?_
    have e75 : a.eval (Operand.tmp 75) = (.bool false : Value) := (ht 75).trans (Eq.trans (b := x 26) (by kernel_rfl) d26)
    clear d26
    clear ht hs
    refine BigFrame.wp_assign _ rfl ?_
    exact hK.out _ _ (Kp.refl _) e75
  intro x u hg he
  have d0 : (x 0) = .pointer (some ⟨bf, 1, none⟩) := And.left he
  have d1 : (x 1) = .int .i64 fm := And.left (And.right he)
  have d2 : (x 2) = .bool false := And.left (And.right (And.right he))
  have d3 : (x 3) = .bool false := And.left (And.right (And.right (And.right he)))
  have d4 : (x 4) = undef := And.left (And.right (And.right (And.right (And.right he))))
  have d5 : (x 5) = undef := And.left (And.right (And.right (And.right (And.right (And.right he)))))
  have d6 : (x 6) = .bool false := And.left (And.right (And.right (And.right (And.right (And.right (And.right he))))))
  have d7 : (x 7) = .bool false := And.left (And.right (And.right (And.right (And.right (And.right (And.right (And.right he)))))))
  have d8 : (x 8) = undef := And.left (And.right (And.right (And.right (And.right (And.right (And.right (And.right (And.right he))))))))
  have d9 : (x 9) = undef := And.left (And.right (And.right (And.right (And.right (And.right (And.right (And.right (And.right (And.right he)))))))))
  have d10 : (x 10) = undef := And.left (And.right (And.right (And.right (And.right (And.right (And.right (And.right (And.right (And.right (And.right he))))))))))
  have d11 : (x 11) = undef := And.left (And.right (And.right (And.right (And.right (And.right (And.right (And.right (And.right (And.right (And.right (And.right he)))))))))))
  have d12 : (x 12) = undef := And.left (And.right (And.right (And.right (And.right (And.right (And.right (And.right (And.right (And.right (And.right (And.right (And.right he))))))))))))
  have d13 : (x 13) = undef := And.left (And.right (And.right (And.right (And.right (And.right (And.right (And.right (And.right (And.right (And.right (And.right (And.right (And.right he)))))))))))))
  have d14 : (x 14) = undef := And.left (And.right (And.right (And.right (And.right (And.right (And.right (And.right (And.right (And.right (And.right (And.right (And.right (And.right (And.right he))))))))))))))
  have d15 : (x 15) = undef := And.left (And.right (And.right (And.right (And.right (And.right (And.right (And.right (And.right (And.right (And.right (And.right (And.right (And.right (And.right (And.right he)))))))))))))))
  have d16 : (x 16) = undef := And.left (And.right (And.right (And.right (And.right (And.right (And.right (And.right (And.right (And.right (And.right (And.right (And.right (And.right (And.right (And.right (And.right he))))))))))))))))
  have d17 : (x 17) = .bool false := And.left (And.right (And.right (And.right (And.right (And.right (And.right (And.right (And.right (And.right (And.right (And.right (And.right (And.right (And.right (And.right (And.right (And.right he)))))))))))))))))
  have d18 : (x 18) = .bool false := And.left (And.right (And.right (And.right (And.right (And.right (And.right (And.right (And.right (And.right (And.right (And.right (And.right (And.right (And.right (And.right (And.right (And.right (And.right he))))))))))))))))))
  have d19 : (x 19) = undef := And.left (And.right (And.right (And.right (And.right (And.right (And.right (And.right (And.right (And.right (And.right (And.right (And.right (And.right (And.right (And.right (And.right (And.right (And.right (And.right he)))))))))))))))))))
  have d20 : (x 20) = undef := And.left (And.right (And.right (And.right (And.right (And.right (And.right (And.right (And.right (And.right (And.right (And.right (And.right (And.right (And.right (And.right (And.right (And.right (And.right (And.right (And.right he))))))))))))))))))))
  have d21 : (x 21) = undef := And.left (And.right (And.right (And.right (And.right (And.right (And.right (And.right (And.right (And.right (And.right (And.right (And.right (And.right (And.right (And.right (And.right (And.right (And.right (And.right (And.right (And.right he)))))))))))))))))))))
  have d22 : (x 22) = undef := And.left (And.right (And.right (And.right (And.right (And.right (And.right (And.right (And.right (And.right (And.right (And.right (And.right (And.right (And.right (And.right (And.right (And.right (And.right (And.right (And.right (And.right (And.right he))))))))))))))))))))))
  have d23 : (x 23) = undef := And.left (And.right (And.right (And.right (And.right (And.right (And.right (And.right (And.right (And.right (And.right (And.right (And.right (And.right (And.right (And.right (And.right (And.right (And.right (And.right (And.right (And.right (And.right (And.right he)))))))))))))))))))))))
  have d24 : (x 24) = undef := And.left (And.right (And.right (And.right (And.right (And.right (And.right (And.right (And.right (And.right (And.right (And.right (And.right (And.right (And.right (And.right (And.right (And.right (And.right (And.right (And.right (And.right (And.right (And.right (And.right he))))))))))))))))))))))))
  have d25 : (x 25) = undef := And.left (And.right (And.right (And.right (And.right (And.right (And.right (And.right (And.right (And.right (And.right (And.right (And.right (And.right (And.right (And.right (And.right (And.right (And.right (And.right (And.right (And.right (And.right (And.right (And.right (And.right he)))))))))))))))))))))))))
  have d26 : (x 26) = .bool false := And.left (And.right (And.right (And.right (And.right (And.right (And.right (And.right (And.right (And.right (And.right (And.right (And.right (And.right (And.right (And.right (And.right (And.right (And.right (And.right (And.right (And.right (And.right (And.right (And.right (And.right (And.right he))))))))))))))))))))))))))
  have d27 : (x 27) = .bool false := And.left (And.right (And.right (And.right (And.right (And.right (And.right (And.right (And.right (And.right (And.right (And.right (And.right (And.right (And.right (And.right (And.right (And.right (And.right (And.right (And.right (And.right (And.right (And.right (And.right (And.right (And.right (And.right he)))))))))))))))))))))))))))
  clear he
  refine ⟨?_⟩
  simp only [putsFrom, Act.put, List.setIfInBounds_toArray, List.set_cons_zero, List.set_cons_succ, Nat.reduceAdd, d0, d1, d2, d3, d4, d5, d6, d7, d8, d9, d10, d11, d12, d13, d14, d15, d16, d17, d18, d19, d20, d21, d22, d23, d24, d25, d26, d27]
  clear d0 d1 d2 d3 d4 d5 d6 d7 d8 d9 d10 d11 d12 d13 d14 d15 d16 d17 d18 d19 d20 d21 d22 d23 d24 d25 d26 d27
  exact hE _ hg

set_option maxRecDepth 20000 in
set_option maxHeartbeats 4000000 in
theorem dir12_other {W : World} {Q : Exit → Act → World → Prop} {s0 s1 s2 s3 s4 s5 s6 s10 s11 s12 s13 s14 s15 s16 s17 s18 s19 s20 s21 s22 s23 s24 s25 s26 s27 s28 s29 s30 s31 s32 s33 s34 s35 s36 s37 s38 s39 s40 s41 s42 s43 s44 s45 s46 s47 s48 s49 s50 s51 s52 s53 s54 s55 s56 s57 s58 s59 s60 s61 s62 s63 s64 s65 s66 s67 s68 s69 s70 s71 s72 s73 s74 s75 s76 s77 s78 s79 s80 s81 s82 s83 s84 s85 s86 s87 s88 s89 s90 s91 s92 s93 s94 s95 s96 s97 s98 s99 s100 s101 s102 s103 s104 s105 s106 s107 s108 s109 s110 s111 s112 s113 : Value} (bs bf pb po mp m1 cP : Nat) (fm fp qs : Int) (hb1 : bs < W.heap.size) (hb2 : bf < W.heap.size) (hb3 : pb < W.heap.size) (Z1 : W.cell? ⟨bs, 1, none⟩ = some (.slice (some ⟨pb, po, none⟩) mp cP)) (F1 : W.cell? ⟨bf, 1, none⟩ = some (.int .i64 fm)) (F2 : W.cell? ⟨bf, 2, none⟩ = some (.int .i64 fp)) (t2 : (fm == 2) = true) (P0 : W.cell? ⟨pb, po + m1 * 7, none⟩ = some (.int .i64 qs)) (t6 : decide ((0 : Int) ≤ (m1 : Int)) = true) (t6b : (0 : Int) ≤ (m1 : Int)) (j5 : (m1 : Int) < (mp : Int)) (ts : (qs == fp) = false)
    (hE : ∀ u, Kp W u → Q .normal { tmps := #[s0, s1, s2, s3, s4, s5, s6, .pointer (some ⟨bs, 0, none⟩), .pointer (some ⟨bf, 0, none⟩), .int .i64 (m1 : Int), .bool false, s11, s12, s13, s14, s15, s16, s17, s18, s19, s20, s21, s22, s23, s24, s25, s26, s27, s28, s29, s30, s31, s32, s33, s34, s35, s36, s37, s38, s39, s40, s41, s42, s43, s44, s45, s46, s47, s48, .pointer (some ⟨bf, 1, none⟩), .int .i64 fm, .bool true, .bool true, .int .i64 (m1 : Int), .bool true, .bool true, .bool true, .pointer (some ⟨bs, 1, none⟩), .slice (some ⟨pb, po, none⟩) mp cP, .int .i64 (m1 : Int), .pointer (some ⟨pb, po + m1 * 7, none⟩), .pointer (some ⟨pb, po + m1 * 7, none⟩), .int .i64 qs, .pointer (some ⟨bf, 2, none⟩), .int .i64 fp, .bool false, .bool false, .bool false, undef, undef, undef, undef, undef, undef, undef, .bool false, s76, s77, s78, s79, s80, s81, s82, s83, s84, s85, s86, s87, s88, s89, s90, s91, s92, s93, s94, s95, s96, s97, s98, s99, s100, s101, s102, s103, s104, s105, s106, s107, s108, s109, s110, s111, s112, s113], defers := [] } u) :
    (Code.region 12 (regArr Try.f10 12) true).wp Try.prog Q { tmps := #[s0, s1, s2, s3, s4, s5, s6, .pointer (some ⟨bs, 0, none⟩), .pointer (some ⟨bf, 0, none⟩), .int .i64 (m1 : Int), s10, s11, s12, s13, s14, s15, s16, s17, s18, s19, s20, s21, s22, s23, s24, s25, s26, s27, s28, s29, s30, s31, s32, s33, s34, s35, s36, s37, s38, s39, s40, s41, s42, s43, s44, s45, s46, s47, s48, s49, s50, s51, s52, s53, s54, s55, s56, s57, s58, s59, s60, s61, s62, s63, s64, s65, s66, s67, s68, s69, s70, s71, s72, s73, s74, s75, s76, s77, s78, s79, s80, s81, s82, s83, s84, s85, s86, s87, s88, s89, s90, s91, s92, s93, s94, s95, s96, s97, s98, s99, s100, s101, s102, s103, s104, s105, s106, s107, s108, s109, s110, s111, s112, s113], defers := [] } W := by
  simp only [regArr, Try.f10, Option.map_some, Option.getD_some, regOf, if_true, if_false, List.append_nil, List.nil_append, List.toList_toArray, Nat.reduceEqDiff, reduceIte]
  refine wp_region_kp [[], [0], [1], [2], [3], [3, 4], [3, 5], [6], [7], [7, 8], [7], [7, 9, 10], [7, 11], [7, 12], [7], [7, 14], [7, 13, 15], [7, 16], [17], [18], [18, 19], [18], [18, 20, 21], [18, 22], [18, 23], [18, 24], [18, 25], [26]] (fun u => Kp W u)
    [fun (y : Value) (u : World) => y = (.pointer (some ⟨bf, 1, none⟩) : Value),
     fun (y : Value) (u : World) => y = (.int .i64 fm : Value),
     fun (y : Value) (u : World) => y = (.bool true : Value),
     fun (y : Value) (u : World) => y = (.bool true : Value),
     fun (y : Value) (u : World) => y = (.int .i64 (m1 : Int) : Value),
     fun (y : Value) (u : World) => y = (.bool true : Value),
     fun (y : Value) (u : World) => y = (.bool true : Value),
     fun (y : Value) (u : World) => y = (.bool true : Value),
     fun (y : Value) (u : World) => y = (.pointer (some ⟨bs, 1, none⟩) : Value),
     fun (y : Value) (u : World) => y = (.slice (some ⟨pb, po, none⟩) mp cP : Value),
     fun (y : Value) (u : World) => y = (.int .i64 (m1 : Int) : Value),
     fun (y : Value) (u : World) => y = (.pointer (some ⟨pb, po + m1 * 7, none⟩) : Value),
     fun (y : Value) (u : World) => y = (.pointer (some ⟨pb, po + m1 * 7, none⟩) : Value),
     fun (y : Value) (u : World) => y = (.int .i64 qs : Value),
     fun (y : Value) (u : World) => y = (.pointer (some ⟨bf, 2, none⟩) : Value),
     fun (y : Value) (u : World) => y = (.int .i64 fp : Value),
     fun (y : Value) (u : World) => y = (.bool false : Value),
     fun (y : Value) (u : World) => y = (.bool false : Value),
     fun (y : Value) (u : World) => y = (.bool false : Value),
     fun (y : Value) (u : World) => y = (undef : Value),
     fun (y : Value) (u : World) => y = (undef : Value),
     fun (y : Value) (u : World) => y = (undef : Value),
     fun (y : Value) (u : World) => y = (undef : Value),
     fun (y : Value) (u : World) => y = (undef : Value),
     fun (y : Value) (u : World) => y = (undef : Value),
     fun (y : Value) (u : World) => y = (undef : Value),
     fun (y : Value) (u : World) => y = (.bool false : Value),
     fun (y : Value) (u : World) => y = (.bool false : Value)]
    (by kernel_rfl) (by kernel_rfl) (by kernel_rfl) (by kernel_rfl) ((Kp.refl _).drew) (fun _ _ hk h => h.trans hk) ⟨fun _ _ _ _ h => h, fun _ _ _ _ h => h, fun _ _ _ _ h => h, fun _ _ _ _ h => h, fun _ _ _ _ h => h, fun _ _ _ _ h => h, fun _ _ _ _ h => h, fun _ _ _ _ h => h, fun _ _ _ _ h => h, fun _ _ _ _ h => h, fun _ _ _ _ h => h, fun _ _ _ _ h => h, fun _ _ _ _ h => h, fun _ _ _ _ h => h, fun _ _ _ _ h => h, fun _ _ _ _ h => h, fun _ _ _ _ h => h, fun _ _ _ _ h => h, fun _ _ _ _ h => h, fun _ _ _ _ h => h, fun _ _ _ _ h => h, fun _ _ _ _ h => h, fun _ _ _ _ h => h, fun _ _ _ _ h => h, fun _ _ _ _ h => h, fun _ _ _ _ h => h, fun _ _ _ _ h => h, fun _ _ _ _ h => h, trivial⟩ ⟨?sc0, ?sc1, ?sc2, ?sc3, ?sc4, ?sc5, ?sc6, ?sc7, ?sc8, ?sc9, ?sc10, ?sc11, ?sc12, ?sc13, ?sc14, ?sc15, ?sc16, ?sc17, ?sc18, ?sc19, ?sc20, ?sc21, ?sc22, ?sc23, ?sc24, ?sc25, ?sc26, ?sc27, trivial⟩ ?hEc
  case sc0 =>
    refine OpStepK.by_ ?_
    intro a x u ht hs hg hd K hK
    clear hd
    refine OpGoal.live (wanted_free (by kernel_rfl)) ?_
    have e8 : a.tmps[8]? = some (.pointer (some ⟨bf, 0, none⟩) : Value) := (hs 8).trans (by kernel_rfl)
    clear ht hs
    go_simp
    exact hK.out _ _ (Kp.refl _) rfl
  case sc1 =>
    refine OpStepK.by_ ?_
    intro a x u ht hs hg hd K hK
    have d0 : (x 0) = .pointer (some ⟨bf, 1, none⟩) := And.left hd
    clear hd
    refine OpGoal.live (wanted_free (by kernel_rfl)) ?_
    have e49 : a.tmps[49]? = some (.pointer (some ⟨bf, 1, none⟩) : Value) := (hs 49).trans (Eq.trans (b := some (x 0)) (by kernel_rfl) (by rw [d0]))
    clear d0
    clear ht hs
    have q0 := cell_kp hg hb2 F1
    go_simp
    exact hK.out _ _ (Kp.refl _) rfl
  case sc2 =>
    refine OpStepK.by_ ?_
    intro a x u ht hs hg hd K hK
    have d1 : (x 1) = .int .i64 fm := And.left hd
    clear hd
    refine OpGoal.live (wanted_free (by kernel_rfl)) ?_
    have e50 : a.tmps[50]? = some (.int .i64 fm : Value) := (hs 50).trans (Eq.trans (b := some (x 1)) (by kernel_rfl) (by rw [d1]))
    clear d1
    clear ht hs
    go_simp
    exact hK.out _ _ (Kp.refl _) rfl
  case sc3 =>
    refine OpStepK.by_ ?_
    intro a x u ht hs hg hd K hK
    have d2 : (x 2) = .bool true := And.left hd
    clear hd
    refine OpGoal.live (wanted_free (by kernel_rfl)) ?_
    have e51 : a.eval (Operand.tmp 51) = (.bool true : Value) := (ht 51).trans (Eq.trans (b := x 2) (by kernel_rfl) d2)
    clear d2
    clear ht hs
    refine BigFrame.wp_move _ rfl ?_
    exact hK.out _ _ (Kp.refl _) e51
  case sc4 =>
    refine OpStepK.by_ ?_
    intro a x u ht hs hg hd K hK
    have d3 : (x 3) = .bool true := And.left hd
    clear hd
    refine OpGoal.live (wanted_yes (j := 3) (d := 52) (by kernel_rfl) (by kernel_rfl) ((hs 52).trans (Eq.trans (b := some (x 3)) (by kernel_rfl) (by rw [d3])))) ?_
    have e9 : a.eval (Operand.tmp 9) = (.int .i64 (m1 : Int) : Value) := (ht 9).trans (by kernel_rfl)
    clear d3
    clear ht hs
    refine BigFrame.wp_move _ rfl ?_
    exact hK.out _ _ (Kp.refl _) e9
  case sc5 =>
    refine OpStepK.by_ ?_
    intro a x u ht hs hg hd K hK
    have d3 : (x 3) = .bool true := And.left hd
    have d4 : (x 4) = .int .i64 (m1 : Int) := And.left (And.right hd)
    clear hd
    refine OpGoal.live (wanted_yes (j := 3) (d := 52) (by kernel_rfl) (by kernel_rfl) ((hs 52).trans (Eq.trans (b := some (x 3)) (by kernel_rfl) (by rw [d3])))) ?_
    have e53 : a.tmps[53]? = some (.int .i64 (m1 : Int) : Value) := (hs 53).trans (Eq.trans (b := some (x 4)) (by kernel_rfl) (by rw [d4]))
    clear d3 d4
    clear ht hs
    go_simp
    exact hK.out _ _ (Kp.refl _) rfl
  case sc6 =>
    refine OpStepK.by_ ?_
    intro a x u ht hs hg hd K hK
    have d3 : (x 3) = .bool true := And.left hd
    have d5 : (x 5) = .bool true := And.left (And.right hd)
    clear hd
    refine OpGoal.live (wanted_free (by kernel_rfl)) ?_
    have e52 : a.tmps[52]? = some (.bool true : Value) := (hs 52).trans (Eq.trans (b := some (x 3)) (by kernel_rfl) (by rw [d3]))
    have e54 : a.tmps[54]? = some (.bool true : Value) := (hs 54).trans (Eq.trans (b := some (x 5)) (by kernel_rfl) (by rw [d5]))
    clear d3 d5
    clear ht hs
    go_simp
    exact hK.out _ _ (Kp.refl _) rfl
  case sc7 =>
    refine OpStepK.by_ ?_
    intro a x u ht hs hg hd K hK
    have d6 : (x 6) = .bool true := And.left hd
    clear hd
    refine OpGoal.live (wanted_free (by kernel_rfl)) ?_
    have e55 : a.eval (Operand.tmp 55) = (.bool true : Value) := (ht 55).trans (Eq.trans (b := x 6) (by kernel_rfl) d6)
    clear d6
    clear ht hs
    refine BigFrame.wp_move _ rfl ?_
    exact hK.out _ _ (Kp.refl _) e55
  case sc8 =>
    refine OpStepK.by_ ?_
    intro a x u ht hs hg hd K hK
    have d7 : (x 7) = .bool true := And.left hd
    clear hd
    refine OpGoal.live (wanted_yes (j := 7) (d := 56) (by kernel_rfl) (by kernel_rfl) ((hs 56).trans (Eq.trans (b := some (x 7)) (by kernel_rfl) (by rw [d7])))) ?_
    have e7 : a.tmps[7]? = some (.pointer (some ⟨bs, 0, none⟩) : Value) := (hs 7).trans (by kernel_rfl)
    clear d7
    clear ht hs
    go_simp
    exact hK.out _ _ (Kp.refl _) rfl
  case sc9 =>
    refine OpStepK.by_ ?_
    intro a x u ht hs hg hd K hK
    have d7 : (x 7) = .bool true := And.left hd
    have d8 : (x 8) = .pointer (some ⟨bs, 1, none⟩) := And.left (And.right hd)
    clear hd
    refine OpGoal.live (wanted_yes (j := 7) (d := 56) (by kernel_rfl) (by kernel_rfl) ((hs 56).trans (Eq.trans (b := some (x 7)) (by kernel_rfl) (by rw [d7])))) ?_
    have e57 : a.tmps[57]? = some (.pointer (some ⟨bs, 1, none⟩) : Value) := (hs 57).trans (Eq.trans (b := some (x 8)) (by kernel_rfl) (by rw [d8]))
    clear d7 d8
    clear ht hs
    have q0 := cell_kp hg hb1 Z1
    go_simp
    exact hK.out _ _ (Kp.refl _) rfl
  case sc10 =>
    refine OpStepK.by_ ?_
    intro a x u ht hs hg hd K hK
    have d7 : (x 7) = .bool true := And.left hd
    clear hd
    refine OpGoal.live (wanted_yes (j := 7) (d := 56) (by kernel_rfl) (by kernel_rfl) ((hs 56).trans (Eq.trans (b := some (x 7)) (by kernel_rfl) (by rw [d7])))) ?_
    have e9 : a.eval (Operand.tmp 9) = (.int .i64 (m1 : Int) : Value) := (ht 9).trans (by kernel_rfl)
    clear d7
    clear ht hs
    refine BigFrame.wp_move _ rfl ?_
    exact hK.out _ _ (Kp.refl _) e9
  case sc11 =>
    refine OpStepK.by_ ?_
    intro a x u ht hs hg hd K hK
    have d7 : (x 7) = .bool true := And.left hd
    have d9 : (x 9) = .slice (some ⟨pb, po, none⟩) mp cP := And.left (And.right hd)
    have d10 : (x 10) = .int .i64 (m1 : Int) := And.left (And.right (And.right hd))
    clear hd
    refine OpGoal.live (wanted_yes (j := 7) (d := 56) (by kernel_rfl) (by kernel_rfl) ((hs 56).trans (Eq.trans (b := some (x 7)) (by kernel_rfl) (by rw [d7])))) ?_
    have e58 : a.tmps[58]? = some (.slice (some ⟨pb, po, none⟩) mp cP : Value) := (hs 58).trans (Eq.trans (b := some (x 9)) (by kernel_rfl) (by rw [d9]))
    have e59 : a.tmps[59]? = some (.int .i64 (m1 : Int) : Value) := (hs 59).trans (Eq.trans (b := some (x 10)) (by kernel_rfl) (by rw [d10]))
    clear d7 d9 d10
    clear ht hs
    go_simp
    exact hK.out _ _ (Kp.refl _) rfl
  case sc12 =>
    refine OpStepK.by_ ?_
    intro a x u ht hs hg hd K hK
    have d7 : (x 7) = .bool true := And.left hd
    have d11 : (x 11) = .pointer (some ⟨pb, po + m1 * 7, none⟩) := And.left (And.right hd)
    clear hd
    refine OpGoal.live (wanted_yes (j := 7) (d := 56) (by kernel_rfl) (by kernel_rfl) ((hs 56).trans (Eq.trans (b := some (x 7)) (by kernel_rfl) (by rw [d7])))) ?_
    have e60 : a.tmps[60]? = some (.pointer (some ⟨pb, po + m1 * 7, none⟩) : Value) := (hs 60).trans (Eq.trans (b := some (x 11)) (by kernel_rfl) (by rw [d11]))
    clear d7 d11
    clear ht hs
    go_simp
    exact hK.out _ _ (Kp.refl _) rfl
  case sc13 =>
    refine OpStepK.by_ ?_
    intro a x u ht hs hg hd K hK
    have d7 : (x 7) = .bool true := And.left hd
    have d12 : (x 12) = .pointer (some ⟨pb, po + m1 * 7, none⟩) := And.left (And.right hd)
    clear hd
    refine OpGoal.live (wanted_yes (j := 7) (d := 56) (by kernel_rfl) (by kernel_rfl) ((hs 56).trans (Eq.trans (b := some (x 7)) (by kernel_rfl) (by rw [d7])))) ?_
    have e61 : a.tmps[61]? = some (.pointer (some ⟨pb, po + m1 * 7, none⟩) : Value) := (hs 61).trans (Eq.trans (b := some (x 12)) (by kernel_rfl) (by rw [d12]))
    clear d7 d12
    clear ht hs
    have q0 := cell_kp hg hb3 P0
    go_simp
    exact hK.out _ _ (Kp.refl _) rfl
  case sc14 =>
    refine OpStepK.by_ ?_
    intro a x u ht hs hg hd K hK
    have d7 : (x 7) = .bool true := And.left hd
    clear hd
    refine OpGoal.live (wanted_yes (j := 7) (d := 56) (by kernel_rfl) (by kernel_rfl) ((hs 56).trans (Eq.trans (b := some (x 7)) (by kernel_rfl) (by rw [d7])))) ?_
    have e8 : a.tmps[8]? = some (.pointer (some ⟨bf, 0, none⟩) : Value) := (hs 8).trans (by kernel_rfl)
    clear d7
    clear ht hs
    go_simp
    exact hK.out _ _ (Kp.refl _) rfl
  case sc15 =>
    refine OpStepK.by_ ?_
    intro a x u ht hs hg hd K hK
    have d7 : (x 7) = .bool true := And.left hd
    have d14 : (x 14) = .pointer (some ⟨bf, 2, none⟩) := And.left (And.right hd)
    clear hd
    refine OpGoal.live (wanted_yes (j := 7) (d := 56) (by kernel_rfl) (by kernel_rfl) ((hs 56).trans (Eq.trans (b := some (x 7)) (by kernel_rfl) (by rw [d7])))) ?_
    have e63 : a.tmps[63]? = some (.pointer (some ⟨bf, 2, none⟩) : Value) := (hs 63).trans (Eq.trans (b := some (x 14)) (by kernel_rfl) (by rw [d14]))
    clear d7 d14
    clear ht hs
    have q0 := cell_kp hg hb2 F2
    go_simp
    exact hK.out _ _ (Kp.refl _) rfl
  case sc16 =>
    refine OpStepK.by_ ?_
    intro a x u ht hs hg hd K hK
    have d7 : (x 7) = .bool true := And.left hd
    have d13 : (x 13) = .int .i64 qs := And.left (And.right hd)
    have d15 : (x 15) = .int .i64 fp := And.left (And.right (And.right hd))
    clear hd
    refine OpGoal.live (wanted_yes (j := 7) (d := 56) (by kernel_rfl) (by kernel_rfl) ((hs 56).trans (Eq.trans (b := some (x 7)) (by kernel_rfl) (by rw [d7])))) ?_
    have e62 : a.tmps[62]? = some (.int .i64 qs : Value) := (hs 62).trans (Eq.trans (b := some (x 13)) (by kernel_rfl) (by rw [d13]))
    have e64 : a.tmps[64]? = some (.int .i64 fp : Value) := (hs 64).trans (Eq.trans (b := some (x 15)) (by kernel_rfl) (by rw [d15]))
    clear d7 d13 d15
    clear ht hs
    go_simp
    exact hK.out _ _ (Kp.refl _) rfl
  case sc17 =>
    refine OpStepK.by_ ?_
    intro a x u ht hs hg hd K hK
    have d7 : (x 7) = .bool true := And.left hd
    have d16 : (x 16) = .bool false := And.left (And.right hd)
    clear hd
    refine OpGoal.live (wanted_free (by kernel_rfl)) ?_
    have e56 : a.tmps[56]? = some (.bool true : Value) := (hs 56).trans (Eq.trans (b := some (x 7)) (by kernel_rfl) (by rw [d7]))
    have e65 : a.tmps[65]? = some (.bool false : Value) := (hs 65).trans (Eq.trans (b := some (x 16)) (by kernel_rfl) (by rw [d16]))
    clear d7 d16
    clear ht hs
    go_simp
    exact hK.out _ _ (Kp.refl _) rfl
  case sc18 =>
    refine OpStepK.by_ ?_
    intro a x u ht hs hg hd K hK
    have d17 : (x 17) = .bool false := And.left hd
    clear hd
    refine OpGoal.live (wanted_free (by kernel_rfl)) ?_
    have e66 : a.eval (Operand.tmp 66) = (.bool false : Value) := (ht 66).trans (Eq.trans (b := x 17) (by kernel_rfl) d17)
    clear d17
    clear ht hs
    refine BigFrame.wp_move _ rfl ?_
    exact hK.out _ _ (Kp.refl _) e66
  case sc19 =>
    refine OpStepK.by_ ?_
    intro a x u ht hs hg hd K hK
    have d18 : (x 18) = .bool false := And.left hd
    clear hd
    refine OpGoal.dead (wanted_no (j := 18) (d := 67) (b := true) (c := false) (by kernel_rfl) (by kernel_rfl) ((hs 67).trans (Eq.trans (b := some (x 18)) (by kernel_rfl) (by rw [d18]))) (by decide)) ?_
    exact hK.out _ _ (Kp.refl _) rfl
  case sc20 =>
    refine OpStepK.by_ ?_
    intro a x u ht hs hg hd K hK
    have d18 : (x 18) = .bool false := And.left hd
    have d19 : (x 19) = undef := And.left (And.right hd)
    clear hd
    refine OpGoal.dead (wanted_no (j := 18) (d := 67) (b := true) (c := false) (by kernel_rfl) (by kernel_rfl) ((hs 67).trans (Eq.trans (b := some (x 18)) (by kernel_rfl) (by rw [d18]))) (by decide)) ?_
    exact hK.out _ _ (Kp.refl _) rfl
  case sc21 =>
    refine OpStepK.by_ ?_
    intro a x u ht hs hg hd K hK
    have d18 : (x 18) = .bool false := And.left hd
    clear hd
    refine OpGoal.dead (wanted_no (j := 18) (d := 67) (b := true) (c := false) (by kernel_rfl) (by kernel_rfl) ((hs 67).trans (Eq.trans (b := some (x 18)) (by kernel_rfl) (by rw [d18]))) (by decide)) ?_
    exact hK.out _ _ (Kp.refl _) rfl
  case sc22 =>
    refine OpStepK.by_ ?_
    intro a x u ht hs hg hd K hK
    have d18 : (x 18) = .bool false := And.left hd
    have d20 : (x 20) = undef := And.left (And.right hd)
    have d21 : (x 21) = undef := And.left (And.right (And.right hd))
    clear hd
    refine OpGoal.dead (wanted_no (j := 18) (d := 67) (b := true) (c := false) (by kernel_rfl) (by kernel_rfl) ((hs 67).trans (Eq.trans (b := some (x 18)) (by kernel_rfl) (by rw [d18]))) (by decide)) ?_
    exact hK.out _ _ (Kp.refl _) rfl
  case sc23 =>
    refine OpStepK.by_ ?_
    intro a x u ht hs hg hd K hK
    have d18 : (x 18) = .bool false := And.left hd
    have d22 : (x 22) = undef := And.left (And.right hd)
    clear hd
    refine OpGoal.dead (wanted_no (j := 18) (d := 67) (b := true) (c := false) (by kernel_rfl) (by kernel_rfl) ((hs 67).trans (Eq.trans (b := some (x 18)) (by kernel_rfl) (by rw [d18]))) (by decide)) ?_
    exact hK.out _ _ (Kp.refl _) rfl
  case sc24 =>
    refine OpStepK.by_ ?_
    intro a x u ht hs hg hd K hK
    have d18 : (x 18) = .bool false := And.left hd
    have d23 : (x 23) = undef := And.left (And.right hd)
    clear hd
    refine OpGoal.dead (wanted_no (j := 18) (d := 67) (b := true) (c := false) (by kernel_rfl) (by kernel_rfl) ((hs 67).trans (Eq.trans (b := some (x 18)) (by kernel_rfl) (by rw [d18]))) (by decide)) ?_
    exact hK.out _ _ (Kp.refl _) rfl
  case sc25 =>
    refine OpStepK.by_ ?_
    intro a x u ht hs hg hd K hK
    have d18 : (x 18) = .bool false := And.left hd
    have d24 : (x 24) = undef := And.left (And.right hd)
    clear hd
    refine OpGoal.dead (wanted_no (j := 18) (d := 67) (b := true) (c := false) (by kernel_rfl) (by kernel_rfl) ((hs 67).trans (Eq.trans (b := some (x 18)) (by kernel_rfl) (by rw [d18]))) (by decide)) ?_
    exact hK.out _ _ (Kp.refl _) rfl
  case sc26 =>
    refine OpStepK.by_ ?_
    intro a x u ht hs hg hd K hK
    have d18 : (x 18) = .bool false := And.left hd
    have d25 : (x 25) = undef := And.left (And.right hd)
    clear hd
    refine OpGoal.live (wanted_free (by kernel_rfl)) ?_
    have e67 : a.tmps[67]? = some (.bool false : Value) := (hs 67).trans (Eq.trans (b := some (x 18)) (by kernel_rfl) (by rw [d18]))
    have e74 : a.tmps[74]? = some (undef : Value) := (hs 74).trans (Eq.trans (b := some (x 25)) (by kernel_rfl) (by rw [d25]))
    clear d18 d25
    clear ht hs
    go_simp
    exact hK.out _ _ (Kp.refl _) rfl
  case sc27 =>
    refine OpStepK.by_ ?_
    intro a x u ht hs hg hd K hK
    have d26 : (x 26) = .bool false := And.left hd
    clear hd
    refine OpGoal.live (wanted_free (by kernel_rfl)) ?_
    have e75 : a.eval (Operand.tmp 75) = (.bool false : Value) := (ht 75).trans (Eq.trans (b := x 26) (by kernel_rfl) d26)
    clear d26
    clear ht hs
    refine BigFrame.wp_assign _ rfl ?_
    exact hK.out _ _ (Kp.refl _) e75
  intro x u hg he
  have d0 : (x 0) = .pointer (some ⟨bf, 1, none⟩) := And.left he
  have d1 : (x 1) = .int .i64 fm := And.left (And.right he)
  have d2 : (x 2) = .bool true := And.left (And.right (And.right he))
  have d3 : (x 3) = .bool true := And.left (And.right (And.right (And.right he)))
  have d4 : (x 4) = .int .i64 (m1 : Int) := And.left (And.right (And.right (And.right (And.right he))))
  have d5 : (x 5) = .bool true := And.left (And.right (And.right (And.right (And.right (And.right he)))))
  have d6 : (x 6) = .bool true := And.left (And.right (And.right (And.right (And.right (And.right (And.right he))))))
  have d7 : (x 7) = .bool true := And.left (And.right (And.right (And.right (And.right (And.right (And.right (And.right he)))))))
  have d8 : (x 8) = .pointer (some ⟨bs, 1, none⟩) := And.left (And.right (And.right (And.right (And.right (And.right (And.right (And.right (And.right he))))))))
  have d9 : (x 9) = .slice (some ⟨pb, po, none⟩) mp cP := And.left (And.right (And.right (And.right (And.right (And.right (And.right (And.right (And.right (And.right he)))))))))
  have d10 : (x 10) = .int .i64 (m1 : Int) := And.left (And.right (And.right (And.right (And.right (And.right (And.right (And.right (And.right (And.right (And.right he))))))))))
  have d11 : (x 11) = .pointer (some ⟨pb, po + m1 * 7, none⟩) := And.left (And.right (And.right (And.right (And.right (And.right (And.right (And.right (And.right (And.right (And.right (And.right he)))))))))))
  have d12 : (x 12) = .pointer (some ⟨pb, po + m1 * 7, none⟩) := And.left (And.right (And.right (And.right (And.right (And.right (And.right (And.right (And.right (And.right (And.right (And.right (And.right he))))))))))))
  have d13 : (x 13) = .int .i64 qs := And.left (And.right (And.right (And.right (And.right (And.right (And.right (And.right (And.right (And.right (And.right (And.right (And.right (And.right he)))))))))))))
  have d14 : (x 14) = .pointer (some ⟨bf, 2, none⟩) := And.left (And.right (And.right (And.right (And.right (And.right (And.right (And.right (And.right (And.right (And.right (And.right (And.right (And.right (And.right he))))))))))))))
  have d15 : (x 15) = .int .i64 fp := And.left (And.right (And.right (And.right (And.right (And.right (And.right (And.right (And.right (And.right (And.right (And.right (And.right (And.right (And.right (And.right he)))))))))))))))
  have d16 : (x 16) = .bool false := And.left (And.right (And.right (And.right (And.right (And.right (And.right (And.right (And.right (And.right (And.right (And.right (And.right (And.right (And.right (And.right (And.right he))))))))))))))))
  have d17 : (x 17) = .bool false := And.left (And.right (And.right (And.right (And.right (And.right (And.right (And.right (And.right (And.right (And.right (And.right (And.right (And.right (And.right (And.right (And.right (And.right he)))))))))))))))))
  have d18 : (x 18) = .bool false := And.left (And.right (And.right (And.right (And.right (And.right (And.right (And.right (And.right (And.right (And.right (And.right (And.right (And.right (And.right (And.right (And.right (And.right (And.right he))))))))))))))))))
  have d19 : (x 19) = undef := And.left (And.right (And.right (And.right (And.right (And.right (And.right (And.right (And.right (And.right (And.right (And.right (And.right (And.right (And.right (And.right (And.right (And.right (And.right (And.right he)))))))))))))))))))
  have d20 : (x 20) = undef := And.left (And.right (And.right (And.right (And.right (And.right (And.right (And.right (And.right (And.right (And.right (And.right (And.right (And.right (And.right (And.right (And.right (And.right (And.right (And.right (And.right he))))))))))))))))))))
  have d21 : (x 21) = undef := And.left (And.right (And.right (And.right (And.right (And.right (And.right (And.right (And.right (And.right (And.right (And.right (And.right (And.right (And.right (And.right (And.right (And.right (And.right (And.right (And.right (And.right he)))))))))))))))))))))
  have d22 : (x 22) = undef := And.left (And.right (And.right (And.right (And.right (And.right (And.right (And.right (And.right (And.right (And.right (And.right (And.right (And.right (And.right (And.right (And.right (And.right (And.right (And.right (And.right (And.right (And.right he))))))))))))))))))))))
  have d23 : (x 23) = undef := And.left (And.right (And.right (And.right (And.right (And.right (And.right (And.right (And.right (And.right (And.right (And.right (And.right (And.right (And.right (And.right (And.right (And.right (And.right (And.right (And.right (And.right (And.right (And.right he)))))))))))))))))))))))
  have d24 : (x 24) = undef := And.left (And.right (And.right (And.right (And.right (And.right (And.right (And.right (And.right (And.right (And.right (And.right (And.right (And.right (And.right (And.right (And.right (And.right (And.right (And.right (And.right (And.right (And.right (And.right (And.right he))))))))))))))))))))))))
  have d25 : (x 25) = undef := And.left (And.right (And.right (And.right (And.right (And.right (And.right (And.right (And.right (And.right (And.right (And.right (And.right (And.right (And.right (And.right (And.right (And.right (And.right (And.right (And.right (And.right (And.right (And.right (And.right (And.right he)))))))))))))))))))))))))
  have d26 : (x 26) = .bool false := And.left (And.right (And.right (And.right (And.right (And.right (And.right (And.right (And.right (And.right (And.right (And.right (And.right (And.right (And.right (And.right (And.right (And.right (And.right (And.right (And.right (And.right (And.right (And.right (And.right (And.right (And.right he))))))))))))))))))))))))))
  have d27 : (x 27) = .bool false := And.left (And.right (And.right (And.right (And.right (And.right (And.right (And.right (And.right (And.right (And.right (And.right (And.right (And.right (And.right (And.right (And.right (And.right (And.right (And.right (And.right (And.right (And.right (And.right (And.right (And.right (And.right (And.right he)))))))))))))))))))))))))))
  clear he
  refine ⟨?_⟩
  simp only [putsFrom, Act.put, List.setIfInBounds_toArray, List.set_cons_zero, List.set_cons_succ, Nat.reduceAdd, d0, d1, d2, d3, d4, d5, d6, d7, d8, d9, d10, d11, d12, d13, d14, d15, d16, d17, d18, d19, d20, d21, d22, d23, d24, d25, d26, d27]
  clear d0 d1 d2 d3 d4 d5 d6 d7 d8 d9 d10 d11 d12 d13 d14 d15 d16 d17 d18 d19 d20 d21 d22 d23 d24 d25 d26 d27
  exact hE _ hg

set_option maxRecDepth 20000 in
set_option maxHeartbeats 4000000 in
theorem dir12_false {W : World} {Q : Exit → Act → World → Prop} {s0 s1 s2 s3 s4 s5 s6 s10 s11 s12 s13 s14 s15 s16 s17 s18 s19 s20 s21 s22 s23 s24 s25 s26 s27 s28 s29 s30 s31 s32 s33 s34 s35 s36 s37 s38 s39 s40 s41 s42 s43 s44 s45 s46 s47 s48 s49 s50 s51 s52 s53 s54 s55 s56 s57 s58 s59 s60 s61 s62 s63 s64 s65 s66 s67 s68 s69 s70 s71 s72 s73 s74 s75 s76 s77 s78 s79 s80 s81 s82 s83 s84 s85 s86 s87 s88 s89 s90 s91 s92 s93 s94 s95 s96 s97 s98 s99 s100 s101 s102 s103 s104 s105 s106 s107 s108 s109 s110 s111 s112 s113 : Value} (bs bf pb po mp m1 cP : Nat) (fm fp qs : Int) (hb1 : bs < W.heap.size) (hb2 : bf < W.heap.size) (hb3 : pb < W.heap.size) (Z1 : W.cell? ⟨bs, 1, none⟩ = some (.slice (some ⟨pb, po, none⟩) mp cP)) (F1 : W.cell? ⟨bf, 1, none⟩ = some (.int .i64 fm)) (F2 : W.cell? ⟨bf, 2, none⟩ = some (.int .i64 fp)) (t2 : (fm == 2) = true) (P0 : W.cell? ⟨pb, po + m1 * 7, none⟩ = some (.int .i64 qs)) (t6 : decide ((0 : Int) ≤ (m1 : Int)) = true) (t6b : (0 : Int) ≤ (m1 : Int)) (j5 : (m1 : Int) < (mp : Int)) (ts : (qs == fp) = true) (P5 : W.cell? ⟨pb, po + m1 * 7 + 5, none⟩ = some (.bool false))
    (hE : ∀ u, Kp W u → Q .normal { tmps := #[s0, s1, s2, s3, s4, s5, s6, .pointer (some ⟨bs, 0, none⟩), .pointer (some ⟨bf, 0, none⟩), .int .i64 (m1 : Int), .bool true, s11, s12, s13, s14, s15, s16, s17, s18, s19, s20, s21, s22, s23, s24, s25, s26, s27, s28, s29, s30, s31, s32, s33, s34, s35, s36, s37, s38, s39, s40, s41, s42, s43, s44, s45, s46, s47, s48, .pointer (some ⟨bf, 1, none⟩), .int .i64 fm, .bool true, .bool true, .int .i64 (m1 : Int), .bool true, .bool true, .bool true, .pointer (some ⟨bs, 1, none⟩), .slice (some ⟨pb, po, none⟩) mp cP, .int .i64 (m1 : Int), .pointer (some ⟨pb, po + m1 * 7, none⟩), .pointer (some ⟨pb, po + m1 * 7, none⟩), .int .i64 qs, .pointer (some ⟨bf, 2, none⟩), .int .i64 fp, .bool true, .bool true, .bool true, .pointer (some ⟨bs, 1, none⟩), .slice (some ⟨pb, po, none⟩) mp cP, .int .i64 (m1 : Int), .pointer (some ⟨pb, po + m1 * 7, none⟩), .pointer (some ⟨pb, po + m1 * 7 + 5, none⟩), .bool false, .bool true, .bool true, s76, s77, s78, s79, s80, s81, s82, s83, s84, s85, s86, s87, s88, s89, s90, s91, s92, s93, s94, s95, s96, s97, s98, s99, s100, s101, s102, s103, s104, s105, s106, s107, s108, s109, s110, s111, s112, s113], defers := [] } u) :
    (Code.region 12 (regArr Try.f10 12) true).wp Try.prog Q { tmps := #[s0, s1, s2, s3, s4, s5, s6, .pointer (some ⟨bs, 0, none⟩), .pointer (some ⟨bf, 0, none⟩), .int .i64 (m1 : Int), s10, s11, s12, s13, s14, s15, s16, s17, s18, s19, s20, s21, s22, s23, s24, s25, s26, s27, s28, s29, s30, s31, s32, s33, s34, s35, s36, s37, s38, s39, s40, s41, s42, s43, s44, s45, s46, s47, s48, s49, s50, s51, s52, s53, s54, s55, s56, s57, s58, s59, s60, s61, s62, s63, s64, s65, s66, s67, s68, s69, s70, s71, s72, s73, s74, s75, s76, s77, s78, s79, s80, s81, s82, s83, s84, s85, s86, s87, s88, s89, s90, s91, s92, s93, s94, s95, s96, s97, s98, s99, s100, s101, s102, s103, s104, s105, s106, s107, s108, s109, s110, s111, s112, s113], defers := [] } W := by
  simp only [regArr, Try.f10, Option.map_some, Option.getD_some, regOf, if_true, if_false, List.append_nil, List.nil_append, List.toList_toArray, Nat.reduceEqDiff, reduceIte]
  refine wp_region_kp [[], [0], [1], [2], [3], [3, 4], [3, 5], [6], [7], [7, 8], [7], [7, 9, 10], [7, 11], [7, 12], [7], [7, 14], [7, 13, 15], [7, 16], [17], [18], [18, 19], [18], [18, 20, 21], [18, 22], [18, 23], [18, 24], [18, 25], [26]] (fun u => Kp W u)
    [fun (y : Value) (u : World) => y = (.pointer (some ⟨bf, 1, none⟩) : Value),
     fun (y : Value) (u : World) => y = (.int .i64 fm : Value),
     fun (y : Value) (u : World) => y = (.bool true : Value),
     fun (y : Value) (u : World) => y = (.bool true : Value),
     fun (y : Value) (u : World) => y = (.int .i64 (m1 : Int) : Value),
     fun (y : Value) (u : World) => y = (.bool true : Value),
     fun (y : Value) (u : World) => y = (.bool true : Value),
     fun (y : Value) (u : World) => y = (.bool true : Value),
     fun (y : Value) (u : World) => y = (.pointer (some ⟨bs, 1, none⟩) : Value),
     fun (y : Value) (u : World) => y = (.slice (some ⟨pb, po, none⟩) mp cP : Value),
     fun (y : Value) (u : World) => y = (.int .i64 (m1 : Int) : Value),
     fun (y : Value) (u : World) => y = (.pointer (some ⟨pb, po + m1 * 7, none⟩) : Value),
     fun (y : Value) (u : World) => y = (.pointer (some ⟨pb, po + m1 * 7, none⟩) : Value),
     fun (y : Value) (u : World) => y = (.int .i64 qs : Value),
     fun (y : Value) (u : World) => y = (.pointer (some ⟨bf, 2, none⟩) : Value),
     fun (y : Value) (u : World) => y = (.int .i64 fp : Value),
     fun (y : Value) (u : World) => y = (.bool true : Value),
     fun (y : Value) (u : World) => y = (.bool true : Value),
     fun (y : Value) (u : World) => y = (.bool true : Value),
     fun (y : Value) (u : World) => y = (.pointer (some ⟨bs, 1, none⟩) : Value),
     fun (y : Value) (u : World) => y = (.slice (some ⟨pb, po, none⟩) mp cP : Value),
     fun (y : Value) (u : World) => y = (.int .i64 (m1 : Int) : Value),
     fun (y : Value) (u : World) => y = (.pointer (some ⟨pb, po + m1 * 7, none⟩) : Value),
     fun (y : Value) (u : World) => y = (.pointer (some ⟨pb, po + m1 * 7 + 5, none⟩) : Value),
     fun (y : Value) (u : World) => y = (.bool false : Value),
     fun (y : Value) (u : World) => y = (.bool true : Value),
     fun (y : Value) (u : World) => y = (.bool true : Value),
     fun (y : Value) (u : World) => y = (.bool true : Value)]
    (by kernel_rfl) (by kernel_rfl) (by kernel_rfl) (by kernel_rfl) ((Kp.refl _).drew) (fun _ _ hk h => h.trans hk) ⟨fun _ _ _ _ h => h, fun _ _ _ _ h => h, fun _ _ _ _ h => h, fun _ _ _ _ h => h, fun _ _ _ _ h => h, fun _ _ _ _ h => h, fun _ _ _ _ h => h, fun _ _ _ _ h => h, fun _ _ _ _ h => h, fun _ _ _ _ h => h, fun _ _ _ _ h => h, fun _ _ _ _ h => h, fun _ _ _ _ h => h, fun _ _ _ _ h => h, fun _ _ _ _ h => h, fun _ _ _ _ h => h, fun _ _ _ _ h => h, fun _ _ _ _ h => h, fun _ _ _ _ h => h, fun _ _ _ _ h => h, fun _ _ _ _ h => h, fun _ _ _ _ h => h, fun _ _ _ _ h => h, fun _ _ _ _ h => h, fun _ _ _ _ h => h, fun _ _ _ _ h => h, fun _ _ _ _ h => h, fun _ _ _ _ h => h, trivial⟩ ⟨?sd0, ?sd1, ?sd2, ?sd3, ?sd4, ?sd5, ?sd6, ?sd7, ?sd8, ?sd9, ?sd10, ?sd11, ?sd12, ?sd13, ?sd14, ?sd15, ?sd16, ?sd17, ?sd18, ?sd19, ?sd20, ?sd21, ?sd22, ?sd23, ?sd24, ?sd25, ?sd26, ?sd27, trivial⟩ ?hEd
  case sd0 =>
    refine OpStepK.by_ ?_
    intro a x u ht hs hg hd K hK
    clear hd
    refine OpGoal.live (wanted_free (by kernel_rfl)) ?_
    have e8 : a.tmps[8]? = some (.pointer (some ⟨bf, 0, none⟩) : Value) := (hs 8).trans (by kernel_rfl)
    clear ht hs
    go_simp
    exact hK.out _ _ (Kp.refl _) rfl
  case sd1 =>
    refine OpStepK.by_ ?_
    intro a x u ht hs hg hd K hK
    have d0 : (x 0) = .pointer (some ⟨bf, 1, none⟩) := And.left hd
    clear hd
    refine OpGoal.live (wanted_free (by kernel_rfl)) ?_
    have e49 : a.tmps[49]? = some (.pointer (some ⟨bf, 1, none⟩) : Value) := (hs 49).trans (Eq.trans (b := some (x 0)) (by kernel_rfl) (by rw [d0]))
    clear d0
    clear ht hs
    have q0 := cell_kp hg hb2 F1
    go_simp
    exact hK.out _ _ (Kp.refl _) rfl
  case sd2 =>
    refine OpStepK.by_ ?_
    intro a x u ht hs hg hd K hK
    have d1 : (x 1) = .int .i64 fm := And.left hd
    clear hd
    refine OpGoal.live (wanted_free (by kernel_rfl)) ?_
    have e50 : a.tmps[50]? = some (.int .i64 fm : Value) := (hs 50).trans (Eq.trans (b := some (x 1)) (by kernel_rfl) (by rw [d1]))
    clear d1
    clear ht hs
    go_simp
    exact hK.out _ _ (Kp.refl _) rfl
  case sd3 =>
    refine OpStepK.by_ ?_
    intro a x u ht hs hg hd K hK
    have d2 : (x 2) = .bool true := And.left hd
    clear hd
    refine OpGoal.live (wanted_free (by kernel_rfl)) ?_
    have e51 : a.eval (Operand.tmp 51) = (.bool true : Value) := (ht 51).trans (Eq.trans (b := x 2) (by kernel_rfl) d2)
    clear d2
    clear ht hs
    refine BigFrame.wp_move _ rfl ?_
    exact hK.out _ _ (Kp.refl _) e51
  case sd4 =>
    refine OpStepK.by_ ?_
    intro a x u ht hs hg hd K hK
    have d3 : (x 3) = .bool true := And.left hd
    clear hd
    refine OpGoal.live (wanted_yes (j := 3) (d := 52) (by kernel_rfl) (by kernel_rfl) ((hs 52).trans (Eq.trans (b := some (x 3)) (by kernel_rfl) (by rw [d3])))) ?_
    have e9 : a.eval (Operand.tmp 9) = (.int .i64 (m1 : Int) : Value) := (ht 9).trans (by kernel_rfl)
    clear d3
    clear ht hs
    refine BigFrame.wp_move _ rfl ?_
    exact hK.out _ _ (Kp.refl _) e9
  case sd5 =>
    refine OpStepK.by_ ?_
    intro a x u ht hs hg hd K hK
    have d3 : (x 3) = .bool true := And.left hd
    have d4 : (x 4) = .int .i64 (m1 : Int) := And.left (And.right hd)
    clear hd
    refine OpGoal.live (wanted_yes (j := 3) (d := 52) (by kernel_rfl) (by kernel_rfl) ((hs 52).trans (Eq.trans (b := some (x 3)) (by kernel_rfl) (by rw [d3])))) ?_
    have e53 : a.tmps[53]? = some (.int .i64 (m1 : Int) : Value) := (hs 53).trans (Eq.trans (b := some (x 4)) (by kernel_rfl) (by rw [d4]))
    clear d3 d4
    clear ht hs
    go_simp
    exact hK.out _ _ (Kp.refl _) rfl
  case sd6 =>
    refine OpStepK.by_ ?_
    intro a x u ht hs hg hd K hK
    have d3 : (x 3) = .bool true := And.left hd
    have d5 : (x 5) = .bool true := And.left (And.right hd)
    clear hd
    refine OpGoal.live (wanted_free (by kernel_rfl)) ?_
    have e52 : a.tmps[52]? = some (.bool true : Value) := (hs 52).trans (Eq.trans (b := some (x 3)) (by kernel_rfl) (by rw [d3]))
    have e54 : a.tmps[54]? = some (.bool true : Value) := (hs 54).trans (Eq.trans (b := some (x 5)) (by kernel_rfl) (by rw [d5]))
    clear d3 d5
    clear ht hs
    go_simp
    exact hK.out _ _ (Kp.refl _) rfl
  case sd7 =>
    refine OpStepK.by_ ?_
    intro a x u ht hs hg hd K hK
    have d6 : (x 6) = .bool true := And.left hd
    clear hd
    refine OpGoal.live (wanted_free (by kernel_rfl)) ?_
    have e55 : a.eval (Operand.tmp 55) = (.bool true : Value) := (ht 55).trans (Eq.trans (b := x 6) (by kernel_rfl) d6)
    clear d6
    clear ht hs
    refine BigFrame.wp_move _ rfl ?_
    exact hK.out _ _ (Kp.refl _) e55
  case sd8 =>
    refine OpStepK.by_ ?_
    intro a x u ht hs hg hd K hK
    have d7 : (x 7) = .bool true := And.left hd
    clear hd
    refine OpGoal.live (wanted_yes (j := 7) (d := 56) (by kernel_rfl) (by kernel_rfl) ((hs 56).trans (Eq.trans (b := some (x 7)) (by kernel_rfl) (by rw [d7])))) ?_
    have e7 : a.tmps[7]? = some (.pointer (some ⟨bs, 0, none⟩) : Value) := (hs 7).trans (by kernel_rfl)
    clear d7
    clear ht hs
    go_simp
    exact hK.out _ _ (Kp.refl _) rfl
  case sd9 =>
    refine OpStepK.by_ ?_
    intro a x u ht hs hg hd K hK
    have d7 : (x 7) = .bool true := And.left hd
    have d8 : (x 8) = .pointer (some ⟨bs, 1, none⟩) := And.left (And.right hd)
    clear hd
    refine OpGoal.live (wanted_yes (j := 7) (d := 56) (by kernel_rfl) (by kernel_rfl) ((hs 56).trans (Eq.trans (b := some (x 7)) (by kernel_rfl) (by rw [d7])))) ?_
    have e57 : a.tmps[57]? = some (.pointer (some ⟨bs, 1, none⟩) : Value) := (hs 57).trans (Eq.trans (b := some (x 8)) (by kernel_rfl) (by rw [d8]))
    clear d7 d8
    clear ht hs
    have q0 := cell_kp hg hb1 Z1
    go_simp
    exact hK.out _ _ (Kp.refl _) rfl
  case sd10 =>
    refine OpStepK.by_ ?_
    intro a x u ht hs hg hd K hK
    have d7 : (x 7) = .bool true := And.left hd
    clear hd
    refine OpGoal.live (wanted_yes (j := 7) (d := 56) (by kernel_rfl) (by kernel_rfl) ((hs 56).trans (Eq.trans (b := some (x 7)) (by kernel_rfl) (by rw [d7])))) ?_
    have e9 : a.eval (Operand.tmp 9) = (.int .i64 (m1 : Int) : Value) := (ht 9).trans (by kernel_rfl)
    clear d7
    clear ht hs
    refine BigFrame.wp_move _ rfl ?_
    exact hK.out _ _ (Kp.refl _) e9
  case sd11 =>
    refine OpStepK.by_ ?_
    intro a x u ht hs hg hd K hK
    have d7 : (x 7) = .bool true := And.left hd
    have d9 : (x 9) = .slice (some ⟨pb, po, none⟩) mp cP := And.left (And.right hd)
    have d10 : (x 10) = .int .i64 (m1 : Int) := And.left (And.right (And.right hd))
    clear hd
    refine OpGoal.live (wanted_yes (j := 7) (d := 56) (by kernel_rfl) (by kernel_rfl) ((hs 56).trans (Eq.trans (b := some (x 7)) (by kernel_rfl) (by rw [d7])))) ?_
    have e58 : a.tmps[58]? = some (.slice (some ⟨pb, po, none⟩) mp cP : Value) := (hs 58).trans (Eq.trans (b := some (x 9)) (by kernel_rfl) (by rw [d9]))
    have e59 : a.tmps[59]? = some (.int .i64 (m1 : Int) : Value) := (hs 59).trans (Eq.trans (b := some (x 10)) (by kernel_rfl) (by rw [d10]))
    clear d7 d9 d10
    clear ht hs
    go_simp
    exact hK.out _ _ (Kp.refl _) rfl
  case sd12 =>
    refine OpStepK.by_ ?_
    intro a x u ht hs hg hd K hK
    have d7 : (x 7) = .bool true := And.left hd
    have d11 : (x 11) = .pointer (some ⟨pb, po + m1 * 7, none⟩) := And.left (And.right hd)
    clear hd
    refine OpGoal.live (wanted_yes (j := 7) (d := 56) (by kernel_rfl) (by kernel_rfl) ((hs 56).trans (Eq.trans (b := some (x 7)) (by kernel_rfl) (by rw [d7])))) ?_
    have e60 : a.tmps[60]? = some (.pointer (some ⟨pb, po + m1 * 7, none⟩) : Value) := (hs 60).trans (Eq.trans (b := some (x 11)) (by kernel_rfl) (by rw [d11]))
    clear d7 d11
    clear ht hs
    go_simp
    exact hK.out _ _ (Kp.refl _) rfl
  case sd13 =>
    refine OpStepK.by_ ?_
    intro a x u ht hs hg hd K hK
    have d7 : (x 7) = .bool true := And.left hd
    have d12 : (x 12) = .pointer (some ⟨pb, po + m1 * 7, none⟩) := And.left (And.right hd)
    clear hd
    refine OpGoal.live (wanted_yes (j := 7) (d := 56) (by kernel_rfl) (by kernel_rfl) ((hs 56).trans (Eq.trans (b := some (x 7)) (by kernel_rfl) (by rw [d7])))) ?_
    have e61 : a.tmps[61]? = some (.pointer (some ⟨pb, po + m1 * 7, none⟩) : Value) := (hs 61).trans (Eq.trans (b := some (x 12)) (by kernel_rfl) (by rw [d12]))
    clear d7 d12
    clear ht hs
    have q0 := cell_kp hg hb3 P0
    go_simp
    exact hK.out _ _ (Kp.refl _) rfl
  case sd14 =>
    refine OpStepK.by_ ?_
    intro a x u ht hs hg hd K hK
    have d7 : (x 7) = .bool true := And.left hd
    clear hd
    refine OpGoal.live (wanted_yes (j := 7) (d := 56) (by kernel_rfl) (by kernel_rfl) ((hs 56).trans (Eq.trans (b := some (x 7)) (by kernel_rfl) (by rw [d7])))) ?_
    have e8 : a.tmps[8]? = some (.pointer (some ⟨bf, 0, none⟩) : Value) := (hs 8).trans (by kernel_rfl)
    clear d7
    clear ht hs
    go_simp
    exact hK.out _ _ (Kp.refl _) rfl
  case sd15 =>
    refine OpStepK.by_ ?_
    intro a x u ht hs hg hd K hK
    have d7 : (x 7) = .bool true := And.left hd
    have d14 : (x 14) = .pointer (some ⟨bf, 2, none⟩) := And.left (And.right hd)
    clear hd
    refine OpGoal.live (wanted_yes (j := 7) (d := 56) (by kernel_rfl) (by kernel_rfl) ((hs 56).trans (Eq.trans (b := some (x 7)) (by kernel_rfl) (by rw [d7])))) ?_
    have e63 : a.tmps[63]? = some (.pointer (some ⟨bf, 2, none⟩) : Value) := (hs 63).trans (Eq.trans (b := some (x 14)) (by kernel_rfl) (by rw [d14]))
    clear d7 d14
    clear ht hs
    have q0 := cell_kp hg hb2 F2
    go_simp
    exact hK.out _ _ (Kp.refl _) rfl
  case sd16 =>
    refine OpStepK.by_ ?_
    intro a x u ht hs hg hd K hK
    have d7 : (x 7) = .bool true := And.left hd
    have d13 : (x 13) = .int .i64 qs := And.left (And.right hd)
    have d15 : (x 15) = .int .i64 fp := And.left (And.right (And.right hd))
    clear hd
    refine OpGoal.live (wanted_yes (j := 7) (d := 56) (by kernel_rfl) (by kernel_rfl) ((hs 56).trans (Eq.trans (b := some (x 7)) (by kernel_rfl) (by rw [d7])))) ?_
    have e62 : a.tmps[62]? = some (.int .i64 qs : Value) := (hs 62).trans (Eq.trans (b := some (x 13)) (by kernel_rfl) (by rw [d13]))
    have e64 : a.tmps[64]? = some (.int .i64 fp : Value) := (hs 64).trans (Eq.trans (b := some (x 15)) (by kernel_rfl) (by rw [d15]))
    clear d7 d13 d15
    clear ht hs
    go_simp
    exact hK.out _ _ (Kp.refl _) rfl
  case sd17 =>
    refine OpStepK.by_ ?_
    intro a x u ht hs hg hd K hK
    have d7 : (x 7) = .bool true := And.left hd
    have d16 : (x 16) = .bool true := And.left (And.right hd)
    clear hd
    refine OpGoal.live (wanted_free (by kernel_rfl)) ?_
    have e56 : a.tmps[56]? = some (.bool true : Value) := (hs 56).trans (Eq.trans (b := some (x 7)) (by kernel_rfl) (by rw [d7]))
    have e65 : a.tmps[65]? = some (.bool true : Value) := (hs 65).trans (Eq.trans (b := some (x 16)) (by kernel_rfl) (by rw [d16]))
    clear d7 d16
    clear ht hs
    go_simp
    exact hK.out _ _ (Kp.refl _) rfl
  case sd18 =>
    refine OpStepK.by_ ?_
    intro a x u ht hs hg hd K hK
    have d17 : (x 17) = .bool true := And.left hd
    clear hd
    refine OpGoal.live (wanted_free (by kernel_rfl)) ?_
    have e66 : a.eval (Operand.tmp 66) = (.bool true : Value) := (ht 66).trans (Eq.trans (b := x 17) (by kernel_rfl) d17)
    clear d17
    clear ht hs
    refine BigFrame.wp_move _ rfl ?_
    exact hK.out _ _ (Kp.refl _) e66
  case sd19 =>
    refine OpStepK.by_ ?_
    intro a x u ht hs hg hd K hK
    have d18 : (x 18) = .bool true := And.left hd
    clear hd
    refine OpGoal.live (wanted_yes (j := 18) (d := 67) (by kernel_rfl) (by kernel_rfl) ((hs 67).trans (Eq.trans (b := some (x 18)) (by kernel_rfl) (by rw [d18])))) ?_
    have e7 : a.tmps[7]? = some (.pointer (some ⟨bs, 0, none⟩) : Value) := (hs 7).trans (by kernel_rfl)
    clear d18
    clear ht hs
    go_simp
    exact hK.out _ _ (Kp.refl _) rfl
  case sd20 =>
    refine OpStepK.by_ ?_
    intro a x u ht hs hg hd K hK
    have d18 : (x 18) = .bool true := And.left hd
    have d19 : (x 19) = .pointer (some ⟨bs, 1, none⟩) := And.left (And.right hd)
    clear hd
    refine OpGoal.live (wanted_yes (j := 18) (d := 67) (by kernel_rfl) (by kernel_rfl) ((hs 67).trans (Eq.trans (b := some (x 18)) (by kernel_rfl) (by rw [d18])))) ?_
    have e68 : a.tmps[68]? = some (.pointer (some ⟨bs, 1, none⟩) : Value) := (hs 68).trans (Eq.trans (b := some (x 19)) (by kernel_rfl) (by rw [d19]))
    clear d18 d19
    clear ht hs
    have q0 := cell_kp hg hb1 Z1
    go_simp
    exact hK.out _ _ (Kp.refl _) rfl
  case sd21 =>
    refine OpStepK.by_ ?_
    intro a x u ht hs hg hd K hK
    have d18 : (x 18) = .bool true := And.left hd
    clear hd
    refine OpGoal.live (wanted_yes (j := 18) (d := 67) (by kernel_rfl) (by kernel_rfl) ((hs 67).trans (Eq.trans (b := some (x 18)) (by kernel_rfl) (by rw [d18])))) ?_
    have e9 : a.eval (Operand.tmp 9) = (.int .i64 (m1 : Int) : Value) := (ht 9).trans (by kernel_rfl)
    clear d18
    clear ht hs
    refine BigFrame.wp_move _ rfl ?_
    exact hK.out _ _ (Kp.refl _) e9
  case sd22 =>
    refine OpStepK.by_ ?_
    intro a x u ht hs hg hd K hK
    have d18 : (x 18) = .bool true := And.left hd
    have d20 : (x 20) = .slice (some ⟨pb, po, none⟩) mp cP := And.left (And.right hd)
    have d21 : (x 21) = .int .i64 (m1 : Int) := And.left (And.right (And.right hd))
    clear hd
    refine OpGoal.live (wanted_yes (j := 18) (d := 67) (by kernel_rfl) (by kernel_rfl) ((hs 67).trans (Eq.trans (b := some (x 18)) (by kernel_rfl) (by rw [d18])))) ?_
    have e69 : a.tmps[69]? = some (.slice (some ⟨pb, po, none⟩) mp cP : Value) := (hs 69).trans (Eq.trans (b := some (x 20)) (by kernel_rfl) (by rw [d20]))
    have e70 : a.tmps[70]? = some (.int .i64 (m1 : Int) : Value) := (hs 70).trans (Eq.trans (b := some (x 21)) (by kernel_rfl) (by rw [d21]))
    clear d18 d20 d21
    clear ht hs
    go_simp
    exact hK.out _ _ (Kp.refl _) rfl
  case sd23 =>
    refine OpStepK.by_ ?_
    intro a x u ht hs hg hd K hK
    have d18 : (x 18) = .bool true := And.left hd
    have d22 : (x 22) = .pointer (some ⟨pb, po + m1 * 7, none⟩) := And.left (And.right hd)
    clear hd
    refine OpGoal.live (wanted_yes (j := 18) (d := 67) (by kernel_rfl) (by kernel_rfl) ((hs 67).trans (Eq.trans (b := some (x 18)) (by kernel_rfl) (by rw [d18])))) ?_
    have e71 : a.tmps[71]? = some (.pointer (some ⟨pb, po + m1 * 7, none⟩) : Value) := (hs 71).trans (Eq.trans (b := some (x 22)) (by kernel_rfl) (by rw [d22]))
    clear d18 d22
    clear ht hs
    go_simp
    exact hK.out _ _ (Kp.refl _) rfl
  case sd24 =>
    refine OpStepK.by_ ?_
    intro a x u ht hs hg hd K hK
    have d18 : (x 18) = .bool true := And.left hd
    have d23 : (x 23) = .pointer (some ⟨pb, po + m1 * 7 + 5, none⟩) := And.left (And.right hd)
    clear hd
    refine OpGoal.live (wanted_yes (j := 18) (d := 67) (by kernel_rfl) (by kernel_rfl) ((hs 67).trans (Eq.trans (b := some (x 18)) (by kernel_rfl) (by rw [d18])))) ?_
    have e72 : a.tmps[72]? = some (.pointer (some ⟨pb, po + m1 * 7 + 5, none⟩) : Value) := (hs 72).trans (Eq.trans (b := some (x 23)) (by kernel_rfl) (by rw [d23]))
    clear d18 d23
    clear ht hs
    have q0 := cell_kp hg hb3 P5
    go_simp
    exact hK.out _ _ (Kp.refl _) rfl
  case sd25 =>
    refine OpStepK.by_ ?_
    intro a x u ht hs hg hd K hK
    have d18 : (x 18) = .bool true := And.left hd
    have d24 : (x 24) = .bool false := And.left (And.right hd)
    clear hd
    refine OpGoal.live (wanted_yes (j := 18) (d := 67) (by kernel_rfl) (by kernel_rfl) ((hs 67).trans (Eq.trans (b := some (x 18)) (by kernel_rfl) (by rw [d18])))) ?_
    have e73 : a.tmps[73]? = some (.bool false : Value) := (hs 73).trans (Eq.trans (b := some (x 24)) (by kernel_rfl) (by rw [d24]))
    clear d18 d24
    clear ht hs
    go_simp
    exact hK.out _ _ (Kp.refl _) rfl
  case sd26 =>
    refine OpStepK.by_ ?_
    intro a x u ht hs hg hd K hK
    have d18 : (x 18) = .bool true := And.left hd
    have d25 : (x 25) = .bool true := And.left (And.right hd)
    clear hd
    refine OpGoal.live (wanted_free (by kernel_rfl)) ?_
    have e67 : a.tmps[67]? = some (.bool true : Value) := (hs 67).trans (Eq.trans (b := some (x 18)) (by kernel_rfl) (by rw [d18]))
    have e74 : a.tmps[74]? = some (.bool true : Value) := (hs 74).trans (Eq.trans (b := some (x 25)) (by kernel_rfl) (by rw [d25]))
    clear d18 d25
    clear ht hs
    go_simp
    exact hK.out _ _ (Kp.refl _) rfl
  case sd27 =>
    refine OpStepK.by_ ?_
    intro a x u ht hs hg hd K hK
    have d26 : (x 26) = .bool true := And.left hd
    clear hd
    refine OpGoal.live (wanted_free (by kernel_rfl)) ?_
    have e75 : a.eval (Operand.tmp 75) = (.bool true : Value) := (ht 75).trans (Eq.trans (b := x 26) (by kernel_rfl) d26)
    clear d26
    clear ht hs
    refine BigFrame.wp_assign _ rfl ?_
    exact hK.out _ _ (Kp.refl _) e75
  intro x u hg he
  have d0 : (x 0) = .pointer (some ⟨bf, 1, none⟩) := And.left he
  have d1 : (x 1) = .int .i64 fm := And.left (And.right he)
  have d2 : (x 2) = .bool true := And.left (And.right (And.right he))
  have d3 : (x 3) = .bool true := And.left (And.right (And.right (And.right he)))
  have d4 : (x 4) = .int .i64 (m1 : Int) := And.left (And.right (And.right (And.right (And.right he))))
  have d5 : (x 5) = .bool true := And.left (And.right (And.right (And.right (And.right (And.right he)))))
  have d6 : (x 6) = .bool true := And.left (And.right (And.right (And.right (And.right (And.right (And.right he))))))
  have d7 : (x 7) = .bool true := And.left (And.right (And.right (And.right (And.right (And.right (And.right (And.right he)))))))
  have d8 : (x 8) = .pointer (some ⟨bs, 1, none⟩) := And.left (And.right (And.right (And.right (And.right (And.right (And.right (And.right (And.right he))))))))
  have d9 : (x 9) = .slice (some ⟨pb, po, none⟩) mp cP := And.left (And.right (And.right (And.right (And.right (And.right (And.right (And.right (And.right (And.right he)))))))))
  have d10 : (x 10) = .int .i64 (m1 : Int) := And.left (And.right (And.right (And.right (And.right (And.right (And.right (And.right (And.right (And.right (And.right he))))))))))
  have d11 : (x 11) = .pointer (some ⟨pb, po + m1 * 7, none⟩) := And.left (And.right (And.right (And.right (And.right (And.right (And.right (And.right (And.right (And.right (And.right (And.right he)))))))))))
  have d12 : (x 12) = .pointer (some ⟨pb, po + m1 * 7, none⟩) := And.left (And.right (And.right (And.right (And.right (And.right (And.right (And.right (And.right (And.right (And.right (And.right (And.right he))))))))))))
  have d13 : (x 13) = .int .i64 qs := And.left (And.right (And.right (And.right (And.right (And.right (And.right (And.right (And.right (And.right (And.right (And.right (And.right (And.right he)))))))))))))
  have d14 : (x 14) = .pointer (some ⟨bf, 2, none⟩) := And.left (And.right (And.right (And.right (And.right (And.right (And.right (And.right (And.right (And.right (And.right (And.right (And.right (And.right (And.right he))))))))))))))
  have d15 : (x 15) = .int .i64 fp := And.left (And.right (And.right (And.right (And.right (And.right (And.right (And.right (And.right (And.right (And.right (And.right (And.right (And.right (And.right (And.right he)))))))))))))))
  have d16 : (x 16) = .bool true := And.left (And.right (And.right (And.right (And.right (And.right (And.right (And.right (And.right (And.right (And.right (And.right (And.right (And.right (And.right (And.right (And.right he))))))))))))))))
  have d17 : (x 17) = .bool true := And.left (And.right (And.right (And.right (And.right (And.right (And.right (And.right (And.right (And.right (And.right (And.right (And.right (And.right (And.right (And.right (And.right (And.right he)))))))))))))))))
  have d18 : (x 18) = .bool true := And.left (And.right (And.right (And.right (And.right (And.right (And.right (And.right (And.right (And.right (And.right (And.right (And.right (And.right (And.right (And.right (And.right (And.right (And.right he))))))))))))))))))
  have d19 : (x 19) = .pointer (some ⟨bs, 1, none⟩) := And.left (And.right (And.right (And.right (And.right (And.right (And.right (And.right (And.right (And.right (And.right (And.right (And.right (And.right (And.right (And.right (And.right (And.right (And.right (And.right he)))))))))))))))))))
  have d20 : (x 20) = .slice (some ⟨pb, po, none⟩) mp cP := And.left (And.right (And.right (And.right (And.right (And.right (And.right (And.right (And.right (And.right (And.right (And.right (And.right (And.right (And.right (And.right (And.right (And.right (And.right (And.right (And.right he))))))))))))))))))))
  have d21 : (x 21) = .int .i64 (m1 : Int) := And.left (And.right (And.right (And.right (And.right (And.right (And.right (And.right (And.right (And.right (And.right (And.right (And.right (And.right (And.right (And.right (And.right (And.right (And.right (And.right (And.right (And.right he)))))))))))))))))))))
  have d22 : (x 22) = .pointer (some ⟨pb, po + m1 * 7, none⟩) := And.left (And.right (And.right (And.right (And.right (And.right (And.right (And.right (And.right (And.right (And.right (And.right (And.right (And.right (And.right (And.right (And.right (And.right (And.right (And.right (And.right (And.right (And.right he))))))))))))))))))))))
  have d23 : (x 23) = .pointer (some ⟨pb, po + m1 * 7 + 5, none⟩) := And.left (And.right (And.right (And.right (And.right (And.right (And.right (And.right (And.right (And.right (And.right (And.right (And.right (And.right (And.right (And.right (And.right (And.right (And.right (And.right (And.right (And.right (And.right (And.right he)))))))))))))))))))))))
  have d24 : (x 24) = .bool false := And.left (And.right (And.right (And.right (And.right (And.right (And.right (And.right (And.right (And.right (And.right (And.right (And.right (And.right (And.right (And.right (And.right (And.right (And.right (And.right (And.right (And.right (And.right (And.right (And.right he))))))))))))))))))))))))
  have d25 : (x 25) = .bool true := And.left (And.right (And.right (And.right (And.right (And.right (And.right (And.right (And.right (And.right (And.right (And.right (And.right (And.right (And.right (And.right (And.right (And.right (And.right (And.right (And.right (And.right (And.right (And.right (And.right (And.right he)))))))))))))))))))))))))
  have d26 : (x 26) = .bool true := And.left (And.right (And.right (And.right (And.right (And.right (And.right (And.right (And.right (And.right (And.right (And.right (And.right (And.right (And.right (And.right (And.right (And.right (And.right (And.right (And.right (And.right (And.right (And.right (And.right (And.right (And.right he))))))))))))))))))))))))))
  have d27 : (x 27) = .bool true := And.left (And.right (And.right (And.right (And.right (And.right (And.right (And.right (And.right (And.right (And.right (And.right (And.right (And.right (And.right (And.right (And.right (And.right (And.right (And.right (And.right (And.right (And.right (And.right (And.right (And.right (And.right (And.right he)))))))))))))))))))))))))))
  clear he
  refine ⟨?_⟩
  simp only [putsFrom, Act.put, List.setIfInBounds_toArray, List.set_cons_zero, List.set_cons_succ, Nat.reduceAdd, d0, d1, d2, d3, d4, d5, d6, d7, d8, d9, d10, d11, d12, d13, d14, d15, d16, d17, d18, d19, d20, d21, d22, d23, d24, d25, d26, d27]
  clear d0 d1 d2 d3 d4 d5 d6 d7 d8 d9 d10 d11 d12 d13 d14 d15 d16 d17 d18 d19 d20 d21 d22 d23 d24 d25 d26 d27
  exact hE _ hg

set_option maxRecDepth 20000 in
set_option maxHeartbeats 4000000 in
theorem dir12_true {W : World} {Q : Exit → Act → World → Prop} {s0 s1 s2 s3 s4 s5 s6 s10 s11 s12 s13 s14 s15 s16 s17 s18 s19 s20 s21 s22 s23 s24 s25 s26 s27 s28 s29 s30 s31 s32 s33 s34 s35 s36 s37 s38 s39 s40 s41 s42 s43 s44 s45 s46 s47 s48 s49 s50 s51 s52 s53 s54 s55 s56 s57 s58 s59 s60 s61 s62 s63 s64 s65 s66 s67 s68 s69 s70 s71 s72 s73 s74 s75 s76 s77 s78 s79 s80 s81 s82 s83 s84 s85 s86 s87 s88 s89 s90 s91 s92 s93 s94 s95 s96 s97 s98 s99 s100 s101 s102 s103 s104 s105 s106 s107 s108 s109 s110 s111 s112 s113 : Value} (bs bf pb po mp m1 cP : Nat) (fm fp qs : Int) (hb1 : bs < W.heap.size) (hb2 : bf < W.heap.size) (hb3 : pb < W.heap.size) (Z1 : W.cell? ⟨bs, 1, none⟩ = some (.slice (some ⟨pb, po, none⟩) mp cP)) (F1 : W.cell? ⟨bf, 1, none⟩ = some (.int .i64 fm)) (F2 : W.cell? ⟨bf, 2, none⟩ = some (.int .i64 fp)) (t2 : (fm == 2) = true) (P0 : W.cell? ⟨pb, po + m1 * 7, none⟩ = some (.int .i64 qs)) (t6 : decide ((0 : Int) ≤ (m1 : Int)) = true) (t6b : (0 : Int) ≤ (m1 : Int)) (j5 : (m1 : Int) < (mp : Int)) (ts : (qs == fp) = true) (P5 : W.cell? ⟨pb, po + m1 * 7 + 5, none⟩ = some (.bool true))
    (hE : ∀ u, Kp W u → Q .normal { tmps := #[s0, s1, s2, s3, s4, s5, s6, .pointer (some ⟨bs, 0, none⟩), .pointer (some ⟨bf, 0, none⟩), .int .i64 (m1 : Int), .bool false, s11, s12, s13, s14, s15, s16, s17, s18, s19, s20, s21, s22, s23, s24, s25, s26, s27, s28, s29, s30, s31, s32, s33, s34, s35, s36, s37, s38, s39, s40, s41, s42, s43, s44, s45, s46, s47, s48, .pointer (some ⟨bf, 1, none⟩), .int .i64 fm, .bool true, .bool true, .int .i64 (m1 : Int), .bool true, .bool true, .bool true, .pointer (some ⟨bs, 1, none⟩), .slice (some ⟨pb, po, none⟩) mp cP, .int .i64 (m1 : Int), .pointer (some ⟨pb, po + m1 * 7, none⟩), .pointer (some ⟨pb, po + m1 * 7, none⟩), .int .i64 qs, .pointer (some ⟨bf, 2, none⟩), .int .i64 fp, .bool true, .bool true, .bool true, .pointer (some ⟨bs, 1, none⟩), .slice (some ⟨pb, po, none⟩) mp cP, .int .i64 (m1 : Int), .pointer (some ⟨pb, po + m1 * 7, none⟩), .pointer (some ⟨pb, po + m1 * 7 + 5, none⟩), .bool true, .bool false, .bool false, s76, s77, s78, s79, s80, s81, s82, s83, s84, s85, s86, s87, s88, s89, s90, s91, s92, s93, s94, s95, s96, s97, s98, s99, s100, s101, s102, s103, s104, s105, s106, s107, s108, s109, s110, s111, s112, s113], defers := [] } u) :
    (Code.region 12 (regArr Try.f10 12) true).wp Try.prog Q { tmps := #[s0, s1, s2, s3, s4, s5, s6, .pointer (some ⟨bs, 0, none⟩), .pointer (some ⟨bf, 0, none⟩), .int .i64 (m1 : Int), s10, s11, s12, s13, s14, s15, s16, s17, s18, s19, s20, s21, s22, s23, s24, s25, s26, s27, s28, s29, s30, s31, s32, s33, s34, s35, s36, s37, s38, s39, s40, s41, s42, s43, s44, s45, s46, s47, s48, s49, s50, s51, s52, s53, s54, s55, s56, s57, s58, s59, s60, s61, s62, s63, s64, s65, s66, s67, s68, s69, s70, s71, s72, s73, s74, s75, s76, s77, s78, s79, s80, s81, s82, s83, s84, s85, s86, s87, s88, s89, s90, s91, s92, s93, s94, s95, s96, s97, s98, s99, s100, s101, s102, s103, s104, s105, s106, s107, s108, s109, s110, s111, s112, s113], defers := [] } W := by
  simp only [regArr, Try.f10, Option.map_some, Option.getD_some, regOf, if_true, if_false, List.append_nil, List.nil_append, List.toList_toArray, Nat.reduceEqDiff, reduceIte]
  refine wp_region_kp [[], [0], [1], [2], [3], [3, 4], [3, 5], [6], [7], [7, 8], [7], [7, 9, 10], [7, 11], [7, 12], [7], [7, 14], [7, 13, 15], [7, 16], [17], [18], [18, 19], [18], [18, 20, 21], [18, 22], [18, 23], [18, 24], [18, 25], [26]] (fun u => Kp W u)
    [fun (y : Value) (u : World) => y = (.pointer (some ⟨bf, 1, none⟩) : Value),
     fun (y : Value) (u : World) => y = (.int .i64 fm : Value),
     fun (y : Value) (u : World) => y = (.bool true : Value),
     fun (y : Value) (u : World) => y = (.bool true : Value),
     fun (y : Value) (u : World) => y = (.int .i64 (m1 : Int) : Value),
     fun (y : Value) (u : World) => y = (.bool true : Value),
     fun (y : Value) (u : World) => y = (.bool true : Value),
     fun (y : Value) (u : World) => y = (.bool true : Value),
     fun (y : Value) (u : World) => y = (.pointer (some ⟨bs, 1, none⟩) : Value),
     fun (y : Value) (u : World) => y = (.slice (some ⟨pb, po, none⟩) mp cP : Value),
     fun (y : Value) (u : World) => y = (.int .i64 (m1 : Int) : Value),
     fun (y : Value) (u : World) => y = (.pointer (some ⟨pb, po + m1 * 7, none⟩) : Value),
     fun (y : Value) (u : World) => y = (.pointer (some ⟨pb, po + m1 * 7, none⟩) : Value),
     fun (y : Value) (u : World) => y = (.int .i64 qs : Value),
     fun (y : Value) (u : World) => y = (.pointer (some ⟨bf, 2, none⟩) : Value),
     fun (y : Value) (u : World) => y = (.int .i64 fp : Value),
     fun (y : Value) (u : World) => y = (.bool true : Value),
     fun (y : Value) (u : World) => y = (.bool true : Value),
     fun (y : Value) (u : World) => y = (.bool true : Value),
     fun (y : Value) (u : World) => y = (.pointer (some ⟨bs, 1, none⟩) : Value),
     fun (y : Value) (u : World) => y = (.slice (some ⟨pb, po, none⟩) mp cP : Value),
     fun (y : Value) (u : World) => y = (.int .i64 (m1 : Int) : Value),
     fun (y : Value) (u : World) => y = (.pointer (some ⟨pb, po + m1 * 7, none⟩) : Value),
     fun (y : Value) (u : World) => y = (.pointer (some ⟨pb, po + m1 * 7 + 5, none⟩) : Value),
     fun (y : Value) (u : World) => y = (.bool true : Value),
     fun (y : Value) (u : World) => y = (.bool false : Value),
     fun (y : Value) (u : World) => y = (.bool false : Value),
     fun (y : Value) (u : World) => y = (.bool false : Value)]
    (by kernel_rfl) (by kernel_rfl) (by kernel_rfl) (by kernel_rfl) ((Kp.refl _).drew) (fun _ _ hk h => h.trans hk) ⟨fun _ _ _ _ h => h, fun _ _ _ _ h => h, fun _ _ _ _ h => h, fun _ _ _ _ h => h, fun _ _ _ _ h => h, fun _ _ _ _ h => h, fun _ _ _ _ h => h, fun _ _ _ _ h => h, fun _ _ _ _ h => h, fun _ _ _ _ h => h, fun _ _ _ _ h => h, fun _ _ _ _ h => h, fun _ _ _ _ h => h, fun _ _ _ _ h => h, fun _ _ _ _ h => h, fun _ _ _ _ h => h, fun _ _ _ _ h => h, fun _ _ _ _ h => h, fun _ _ _ _ h => h, fun _ _ _ _ h => h, fun _ _ _ _ h => h, fun _ _ _ _ h => h, fun _ _ _ _ h => h, fun _ _ _ _ h => h, fun _ _ _ _ h => h, fun _ _ _ _ h => h, fun _ _ _ _ h => h, fun _ _ _ _ h => h, trivial⟩ ⟨?se0, ?se1, ?se2, ?se3, ?se4, ?se5, ?se6, ?se7, ?se8, ?se9, ?se10, ?se11, ?se12, ?se13, ?se14, ?se15, ?se16, ?se17, ?se18, ?se19, ?se20, ?se21, ?se22, ?se23, ?se24, ?se25, ?se26, ?se27, trivial⟩ ?hEe
  case se0 =>
    refine OpStepK.by_ ?_
    intro a x u ht hs hg hd K hK
    clear hd
    refine OpGoal.live (wanted_free (by kernel_rfl)) ?_
    have e8 : a.tmps[8]? = some (.pointer (some ⟨bf, 0, none⟩) : Value) := (hs 8).trans (by kernel_rfl)
    clear ht hs
    go_simp
    exact hK.out _ _ (Kp.refl _) rfl
  case se1 =>
    refine OpStepK.by_ ?_
    intro a x u ht hs hg hd K hK
    have d0 : (x 0) = .pointer (some ⟨bf, 1, none⟩) := And.left hd
    clear hd
    refine OpGoal.live (wanted_free (by kernel_rfl)) ?_
    have e49 : a.tmps[49]? = some (.pointer (some ⟨bf, 1, none⟩) : Value) := (hs 49).trans (Eq.trans (b := some (x 0)) (by kernel_rfl) (by rw [d0]))
    clear d0
    clear ht hs
    have q0 := cell_kp hg hb2 F1
    go_simp
    exact hK.out _ _ (Kp.refl _) rfl
  case se2 =>
    refine OpStepK.by_ ?_
    intro a x u ht hs hg hd K hK
    have d1 : (x 1) = .int .i64 fm := And.left hd
    clear hd
    refine OpGoal.live (wanted_free (by kernel_rfl)) ?_
    have e50 : a.tmps[50]? = some (.int .i64 fm : Value) := (hs 50).trans (Eq.trans (b := some (x 1)) (by kernel_rfl) (by rw [d1]))
    clear d1
    clear ht hs
    go_simp
    exact hK.out _ _ (Kp.refl _) rfl
  case se3 =>
    refine OpStepK.by_ ?_
    intro a x u ht hs hg hd K hK
    have d2 : (x 2) = .bool true := And.left hd
    clear hd
    refine OpGoal.live (wanted_free (by kernel_rfl)) ?_
    have e51 : a.eval (Operand.tmp 51) = (.bool true : Value) := (ht 51).trans (Eq.trans (b := x 2) (by kernel_rfl) d2)
    clear d2
    clear ht hs
    refine BigFrame.wp_move _ rfl ?_
    exact hK.out _ _ (Kp.refl _) e51
  case se4 =>
    refine OpStepK.by_ ?_
    intro a x u ht hs hg hd K hK
    have d3 : (x 3) = .bool true := And.left hd
    clear hd
    refine OpGoal.live (wanted_yes (j := 3) (d := 52) (by kernel_rfl) (by kernel_rfl) ((hs 52).trans (Eq.trans (b := some (x 3)) (by kernel_rfl) (by rw [d3])))) ?_
    have e9 : a.eval (Operand.tmp 9) = (.int .i64 (m1 : Int) : Value) := (ht 9).trans (by kernel_rfl)
    clear d3
    clear ht hs
    refine BigFrame.wp_move _ rfl ?_
    exact hK.out _ _ (Kp.refl _) e9
  case se5 =>
    refine OpStepK.by_ ?_
    intro a x u ht hs hg hd K hK
    have d3 : (x 3) = .bool true := And.left hd
    have d4 : (x 4) = .int .i64 (m1 : Int) := And.left (And.right hd)
    clear hd
    refine OpGoal.live (wanted_yes (j := 3) (d := 52) (by kernel_rfl) (by kernel_rfl) ((hs 52).trans (Eq.trans (b := some (x 3)) (by kernel_rfl) (by rw [d3])))) ?_
    have e53 : a.tmps[53]? = some (.int .i64 (m1 : Int) : Value) := (hs 53).trans (Eq.trans (b := some (x 4)) (by kernel_rfl) (by rw [d4]))
    clear d3 d4
    clear ht hs
    go_simp
    exact hK.out _ _ (Kp.refl _) rfl
  case se6 =>
    refine OpStepK.by_ ?_
    intro a x u ht hs hg hd K hK
    have d3 : (x 3) = .bool true := And.left hd
    have d5 : (x 5) = .bool true := And.left (And.right hd)
    clear hd
    refine OpGoal.live (wanted_free (by kernel_rfl)) ?_
    have e52 : a.tmps[52]? = some (.bool true : Value) := (hs 52).trans (Eq.trans (b := some (x 3)) (by kernel_rfl) (by rw [d3]))
    have e54 : a.tmps[54]? = some (.bool true : Value) := (hs 54).trans (Eq.trans (b := some (x 5)) (by kernel_rfl) (by rw [d5]))
    clear d3 d5
    clear ht hs
    go_simp
    exact hK.out _ _ (Kp.refl _) rfl
  case se7 =>
    refine OpStepK.by_ ?_
    intro a x u ht hs hg hd K hK
    have d6 : (x 6) = .bool true := And.left hd
    clear hd
    refine OpGoal.live (wanted_free (by kernel_rfl)) ?_
    have e55 : a.eval (Operand.tmp 55) = (.bool true : Value) := (ht 55).trans (Eq.trans (b := x 6) (by kernel_rfl) d6)
    clear d6
    clear ht hs
    refine BigFrame.wp_move _ rfl ?_
    exact hK.out _ _ (Kp.refl _) e55
  case se8 =>
    refine OpStepK.by_ ?_
    intro a x u ht hs hg hd K hK
    have d7 : (x 7) = .bool true := And.left hd
    clear hd
    refine OpGoal.live (wanted_yes (j := 7) (d := 56) (by kernel_rfl) (by kernel_rfl) ((hs 56).trans (Eq.trans (b := some (x 7)) (by kernel_rfl) (by rw [d7])))) ?_
    have e7 : a.tmps[7]? = some (.pointer (some ⟨bs, 0, none⟩) : Value) := (hs 7).trans (by kernel_rfl)
    clear d7
    clear ht hs
    go_simp
    exact hK.out _ _ (Kp.refl _) rfl
  case se9 =>
    refine OpStepK.by_ ?_
    intro a x u ht hs hg hd K hK
    have d7 : (x 7) = .bool true := And.left hd
    have d8 : (x 8) = .pointer (some ⟨bs, 1, none⟩) := And.left (And.right hd)
    clear hd
    refine OpGoal.live (wanted_yes (j := 7) (d := 56) (by kernel_rfl) (by kernel_rfl) ((hs 56).trans (Eq.trans (b := some (x 7)) (by kernel_rfl) (by rw [d7])))) ?_
    have e57 : a.tmps[57]? = some (.pointer (some ⟨bs, 1, none⟩) : Value) := (hs 57).trans (Eq.trans (b := some (x 8)) (by kernel_rfl) (by rw [d8]))
    clear d7 d8
    clear ht hs
    have q0 := cell_kp hg hb1 Z1
    go_simp
    exact hK.out _ _ (Kp.refl _) rfl
  case se10 =>
    refine OpStepK.by_ ?_
    intro a x u ht hs hg hd K hK
    have d7 : (x 7) = .bool true := And.left hd
    clear hd
    refine OpGoal.live (wanted_yes (j := 7) (d := 56) (by kernel_rfl) (by kernel_rfl) ((hs 56).trans (Eq.trans (b := some (x 7)) (by kernel_rfl) (by rw [d7])))) ?_
    have e9 : a.eval (Operand.tmp 9) = (.int .i64 (m1 : Int) : Value) := (ht 9).trans (by kernel_rfl)
    clear d7
    clear ht hs
    refine BigFrame.wp_move _ rfl ?_
    exact hK.out _ _ (Kp.refl _) e9
  case se11 =>
    refine OpStepK.by_ ?_
    intro a x u ht hs hg hd K hK
    have d7 : (x 7) = .bool true := And.left hd
    have d9 : (x 9) = .slice (some ⟨pb, po, none⟩) mp cP := And.left (And.right hd)
    have d10 : (x 10) = .int .i64 (m1 : Int) := And.left (And.right (And.right hd))
    clear hd
    refine OpGoal.live (wanted_yes (j := 7) (d := 56) (by kernel_rfl) (by kernel_rfl) ((hs 56).trans (Eq.trans (b := some (x 7)) (by kernel_rfl) (by rw [d7])))) ?_
    have e58 : a.tmps[58]? = some (.slice (some ⟨pb, po, none⟩) mp cP : Value) := (hs 58).trans (Eq.trans (b := some (x 9)) (by kernel_rfl) (by rw [d9]))
    have e59 : a.tmps[59]? = some (.int .i64 (m1 : Int) : Value) := (hs 59).trans (Eq.trans (b := some (x 10)) (by kernel_rfl) (by rw [d10]))
    clear d7 d9 d10
    clear ht hs
    go_simp
    exact hK.out _ _ (Kp.refl _) rfl
  case se12 =>
    refine OpStepK.by_ ?_
    intro a x u ht hs hg hd K hK
    have d7 : (x 7) = .bool true := And.left hd
    have d11 : (x 11) = .pointer (some ⟨pb, po + m1 * 7, none⟩) := And.left (And.right hd)
    clear hd
    refine OpGoal.live (wanted_yes (j := 7) (d := 56) (by kernel_rfl) (by kernel_rfl) ((hs 56).trans (Eq.trans (b := some (x 7)) (by kernel_rfl) (by rw [d7])))) ?_
    have e60 : a.tmps[60]? = some (.pointer (some ⟨pb, po + m1 * 7, none⟩) : Value) := (hs 60).trans (Eq.trans (b := some (x 11)) (by kernel_rfl) (by rw [d11]))
    clear d7 d11
    clear ht hs
    go_simp
    exact hK.out _ _ (Kp.refl _) rfl
  case se13 =>
    refine OpStepK.by_ ?_
    intro a x u ht hs hg hd K hK
    have d7 : (x 7) = .bool true := And.left hd
    have d12 : (x 12) = .pointer (some ⟨pb, po + m1 * 7, none⟩) := And.left (And.right hd)
    clear hd
    refine OpGoal.live (wanted_yes (j := 7) (d := 56) (by kernel_rfl) (by kernel_rfl) ((hs 56).trans (Eq.trans (b := some (x 7)) (by kernel_rfl) (by rw [d7])))) ?_
    have e61 : a.tmps[61]? = some (.pointer (some ⟨pb, po + m1 * 7, none⟩) : Value) := (hs 61).trans (Eq.trans (b := some (x 12)) (by kernel_rfl) (by rw [d12]))
    clear d7 d12
    clear ht hs
    have q0 := cell_kp hg hb3 P0
    go_simp
    exact hK.out _ _ (Kp.refl _) rfl
  case se14 =>
    refine OpStepK.by_ ?_
    intro a x u ht hs hg hd K hK
    have d7 : (x 7) = .bool true := And.left hd
    clear hd
    refine OpGoal.live (wanted_yes (j := 7) (d := 56) (by kernel_rfl) (by kernel_rfl) ((hs 56).trans (Eq.trans (b := some (x 7)) (by kernel_rfl) (by rw [d7])))) ?_
    have e8 : a.tmps[8]? = some (.pointer (some ⟨bf, 0, none⟩) : Value) := (hs 8).trans (by kernel_rfl)
    clear d7
    clear ht hs
    go_simp
    exact hK.out _ _ (Kp.refl _) rfl
  case se15 =>
    refine OpStepK.by_ ?_
    intro a x u ht hs hg hd K hK
    have d7 : (x 7) = .bool true := And.left hd
    have d14 : (x 14) = .pointer (some ⟨bf, 2, none⟩) := And.left (And.right hd)
    clear hd
    refine OpGoal.live (wanted_yes (j := 7) (d := 56) (by kernel_rfl) (by kernel_rfl) ((hs 56).trans (Eq.trans (b := some (x 7)) (by kernel_rfl) (by rw [d7])))) ?_
    have e63 : a.tmps[63]? = some (.pointer (some ⟨bf, 2, none⟩) : Value) := (hs 63).trans (Eq.trans (b := some (x 14)) (by kernel_rfl) (by rw [d14]))
    clear d7 d14
    clear ht hs
    have q0 := cell_kp hg hb2 F2
    go_simp
    exact hK.out _ _ (Kp.refl _) rfl
  case se16 =>
    refine OpStepK.by_ ?_
    intro a x u ht hs hg hd K hK
    have d7 : (x 7) = .bool true := And.left hd
    have d13 : (x 13) = .int .i64 qs := And.left (And.right hd)
    have d15 : (x 15) = .int .i64 fp := And.left (And.right (And.right hd))
    clear hd
    refine OpGoal.live (wanted_yes (j := 7) (d := 56) (by kernel_rfl) (by kernel_rfl) ((hs 56).trans (Eq.trans (b := some (x 7)) (by kernel_rfl) (by rw [d7])))) ?_
    have e62 : a.tmps[62]? = some (.int .i64 qs : Value) := (hs 62).trans (Eq.trans (b := some (x 13)) (by kernel_rfl) (by rw [d13]))
    have e64 : a.tmps[64]? = some (.int .i64 fp : Value) := (hs 64).trans (Eq.trans (b := some (x 15)) (by kernel_rfl) (by rw [d15]))
    clear d7 d13 d15
    clear ht hs
    go_simp
    exact hK.out _ _ (Kp.refl _) rfl
  case se17 =>
    refine OpStepK.by_ ?_
    intro a x u ht hs hg hd K hK
    have d7 : (x 7) = .bool true := And.left hd
    have d16 : (x 16) = .bool true := And.left (And.right hd)
    clear hd
    refine OpGoal.live (wanted_free (by kernel_rfl)) ?_
    have e56 : a.tmps[56]? = some (.bool true : Value) := (hs 56).trans (Eq.trans (b := some (x 7)) (by kernel_rfl) (by rw [d7]))
    have e65 : a.tmps[65]? = some (.bool true : Value) := (hs 65).trans (Eq.trans (b := some (x 16)) (by kernel_rfl) (by rw [d16]))
    clear d7 d16
    clear ht hs
    go_simp
    exact hK.out _ _ (Kp.refl _) rfl
  case se18 =>
    refine OpStepK.by_ ?_
    intro a x u ht hs hg hd K hK
    have d17 : (x 17) = .bool true := And.left hd
    clear hd
    refine OpGoal.live (wanted_free (by kernel_rfl)) ?_
    have e66 : a.eval (Operand.tmp 66) = (.bool true : Value) := (ht 66).trans (Eq.trans (b := x 17) (by kernel_rfl) d17)
    clear d17
    clear ht hs
    refine BigFrame.wp_move _ rfl ?_
    exact hK.out _ _ (Kp.refl _) e66
  case se19 =>
    refine OpStepK.by_ ?_
    intro a x u ht hs hg hd K hK
    have d18 : (x 18) = .bool true := And.left hd
    clear hd
    refine OpGoal.live (wanted_yes (j := 18) (d := 67) (by kernel_rfl) (by kernel_rfl) ((hs 67).trans (Eq.trans (b := some (x 18)) (by kernel_rfl) (by rw [d18])))) ?_
    have e7 : a.tmps[7]? = some (.pointer (some ⟨bs, 0, none⟩) : Value) := (hs 7).trans (by kernel_rfl)
    clear d18
    clear ht hs
    go_simp
    exact hK.out _ _ (Kp.refl _) rfl
  case se20 =>
    refine OpStepK.by_ ?_
    intro a x u ht hs hg hd K hK
    have d18 : (x 18) = .bool true := And.left hd
    have d19 : (x 19) = .pointer (some ⟨bs, 1, none⟩) := And.left (And.right hd)
    clear hd
    refine OpGoal.live (wanted_yes (j := 18) (d := 67) (by kernel_rfl) (by kernel_rfl) ((hs 67).trans (Eq.trans (b := some (x 18)) (by kernel_rfl) (by rw [d18])))) ?_
    have e68 : a.tmps[68]? = some (.pointer (some ⟨bs, 1, none⟩) : Value) := (hs 68).trans (Eq.trans (b := some (x 19)) (by kernel_rfl) (by rw [d19]))
    clear d18 d19
    clear ht hs
    have q0 := cell_kp hg hb1 Z1
    go_simp
    exact hK.out _ _ (Kp.refl _) rfl
  case se21 =>
    refine OpStepK.by_ ?_
    intro a x u ht hs hg hd K hK
    have d18 : (x 18) = .bool true := And.left hd
    clear hd
    refine OpGoal.live (wanted_yes (j := 18) (d := 67) (by kernel_rfl) (by kernel_rfl) ((hs 67).trans (Eq.trans (b := some (x 18)) (by kernel_rfl) (by rw [d18])))) ?_
    have e9 : a.eval (Operand.tmp 9) = (.int .i64 (m1 : Int) : Value) := (ht 9).trans (by kernel_rfl)
    clear d18
    clear ht hs
    refine BigFrame.wp_move _ rfl ?_
    exact hK.out _ _ (Kp.refl _) e9
  case se22 =>
    refine OpStepK.by_ ?_
    intro a x u ht hs hg hd K hK
    have d18 : (x 18) = .bool true := And.left hd
    have d20 : (x 20) = .slice (some ⟨pb, po, none⟩) mp cP := And.left (And.right hd)
    have d21 : (x 21) = .int .i64 (m1 : Int) := And.left (And.right (And.right hd))
    clear hd
    refine OpGoal.live (wanted_yes (j := 18) (d := 67) (by kernel_rfl) (by kernel_rfl) ((hs 67).trans (Eq.trans (b := some (x 18)) (by kernel_rfl) (by rw [d18])))) ?_
    have e69 : a.tmps[69]? = some (.slice (some ⟨pb, po, none⟩) mp cP : Value) := (hs 69).trans (Eq.trans (b := some (x 20)) (by kernel_rfl) (by rw [d20]))
    have e70 : a.tmps[70]? = some (.int .i64 (m1 : Int) : Value) := (hs 70).trans (Eq.trans (b := some (x 21)) (by kernel_rfl) (by rw [d21]))
    clear d18 d20 d21
    clear ht hs
    go_simp
    exact hK.out _ _ (Kp.refl _) rfl
  case se23 =>
    refine OpStepK.by_ ?_
    intro a x u ht hs hg hd K hK
    have d18 : (x 18) = .bool true := And.left hd
    have d22 : (x 22) = .pointer (some ⟨pb, po + m1 * 7, none⟩) := And.left (And.right hd)
    clear hd
    refine OpGoal.live (wanted_yes (j := 18) (d := 67) (by kernel_rfl) (by kernel_rfl) ((hs 67).trans (Eq.trans (b := some (x 18)) (by kernel_rfl) (by rw [d18])))) ?_
    have e71 : a.tmps[71]? = some (.pointer (some ⟨pb, po + m1 * 7, none⟩) : Value) := (hs 71).trans (Eq.trans (b := some (x 22)) (by kernel_rfl) (by rw [d22]))
    clear d18 d22
    clear ht hs
    go_simp
    exact hK.out _ _ (Kp.refl _) rfl
  case se24 =>
    refine OpStepK.by_ ?_
    intro a x u ht hs hg hd K hK
    have d18 : (x 18) = .bool true := And.left hd
    have d23 : (x 23) = .pointer (some ⟨pb, po + m1 * 7 + 5, none⟩) := And.left (And.right hd)
    clear hd
    refine OpGoal.live (wanted_yes (j := 18) (d := 67) (by kernel_rfl) (by kernel_rfl) ((hs 67).trans (Eq.trans (b := some (x 18)) (by kernel_rfl) (by rw [d18])))) ?_
    have e72 : a.tmps[72]? = some (.pointer (some ⟨pb, po + m1 * 7 + 5, none⟩) : Value) := (hs 72).trans (Eq.trans (b := some (x 23)) (by kernel_rfl) (by rw [d23]))
    clear d18 d23
    clear ht hs
    have q0 := cell_kp hg hb3 P5
    go_simp
    exact hK.out _ _ (Kp.refl _) rfl
  case se25 =>
    refine OpStepK.by_ ?_
    intro a x u ht hs hg hd K hK
    have d18 : (x 18) = .bool true := And.left hd
    have d24 : (x 24) = .bool true := And.left (And.right hd)
    clear hd
    refine OpGoal.live (wanted_yes (j := 18) (d := 67) (by kernel_rfl) (by kernel_rfl) ((hs 67).trans (Eq.trans (b := some (x 18)) (by kernel_rfl) (by rw [d18])))) ?_
    have e73 : a.tmps[73]? = some (.bool true : Value) := (hs 73).trans (Eq.trans (b := some (x 24)) (by kernel_rfl) (by rw [d24]))
    clear d18 d24
    clear ht hs
    go_simp
    exact hK.out _ _ (Kp.refl _) rfl
  case se26 =>
    refine OpStepK.by_ ?_
    intro a x u ht hs hg hd K hK
    have d18 : (x 18) = .bool true := And.left hd
    have d25 : (x 25) = .bool false := And.left (And.right hd)
    clear hd
    refine OpGoal.live (wanted_free (by kernel_rfl)) ?_
    have e67 : a.tmps[67]? = some (.bool true : Value) := (hs 67).trans (Eq.trans (b := some (x 18)) (by kernel_rfl) (by rw [d18]))
    have e74 : a.tmps[74]? = some (.bool false : Value) := (hs 74).trans (Eq.trans (b := some (x 25)) (by kernel_rfl) (by rw [d25]))
    clear d18 d25
    clear ht hs
    go_simp
    exact hK.out _ _ (Kp.refl _) rfl
  case se27 =>
    refine OpStepK.by_ ?_
    intro a x u ht hs hg hd K hK
    have d26 : (x 26) = .bool false := And.left hd
    clear hd
    refine OpGoal.live (wanted_free (by kernel_rfl)) ?_
    have e75 : a.eval (Operand.tmp 75) = (.bool false : Value) := (ht 75).trans (Eq.trans (b := x 26) (by kernel_rfl) d26)
    clear d26
    clear ht hs
    refine BigFrame.wp_assign _ rfl ?_
    exact hK.out _ _ (Kp.refl _) e75
  intro x u hg he
  have d0 : (x 0) = .pointer (some ⟨bf, 1, none⟩) := And.left he
  have d1 : (x 1) = .int .i64 fm := And.left (And.right he)
  have d2 : (x 2) = .bool true := And.left (And.right (And.right he))
  have d3 : (x 3) = .bool true := And.left (And.right (And.right (And.right he)))
  have d4 : (x 4) = .int .i64 (m1 : Int) := And.left (And.right (And.right (And.right (And.right he))))
  have d5 : (x 5) = .bool true := And.left (And.right (And.right (And.right (And.right (And.right he)))))
  have d6 : (x 6) = .bool true := And.left (And.right (And.right (And.right (And.right (And.right (And.right he))))))
  have d7 : (x 7) = .bool true := And.left (And.right (And.right (And.right (And.right (And.right (And.right (And.right he)))))))
  have d8 : (x 8) = .pointer (some ⟨bs, 1, none⟩) := And.left (And.right (And.right (And.right (And.right (And.right (And.right (And.right (And.right he))))))))
  have d9 : (x 9) = .slice (some ⟨pb, po, none⟩) mp cP := And.left (And.right (And.right (And.right (And.right (And.right (And.right (And.right (And.right (And.right he)))))))))
  have d10 : (x 10) = .int .i64 (m1 : Int) := And.left (And.right (And.right (And.right (And.right (And.right (And.right (And.right (And.right (And.right (And.right he))))))))))
  have d11 : (x 11) = .pointer (some ⟨pb, po + m1 * 7, none⟩) := And.left (And.right (And.right (And.right (And.right (And.right (And.right (And.right (And.right (And.right (And.right (And.right he)))))))))))
  have d12 : (x 12) = .pointer (some ⟨pb, po + m1 * 7, none⟩) := And.left (And.right (And.right (And.right (And.right (And.right (And.right (And.right (And.right (And.right (And.right (And.right (And.right he))))))))))))
  have d13 : (x 13) = .int .i64 qs := And.left (And.right (And.right (And.right (And.right (And.right (And.right (And.right (And.right (And.right (And.right (And.right (And.right (And.right he)))))))))))))
  have d14 : (x 14) = .pointer (some ⟨bf, 2, none⟩) := And.left (And.right (And.right (And.right (And.right (And.right (And.right (And.right (And.right (And.right (And.right (And.right (And.right (And.right (And.right he))))))))))))))
  have d15 : (x 15) = .int .i64 fp := And.left (And.right (And.right (And.right (And.right (And.right (And.right (And.right (And.right (And.right (And.right (And.right (And.right (And.right (And.right (And.right he)))))))))))))))
  have d16 : (x 16) = .bool true := And.left (And.right (And.right (And.right (And.right (And.right (And.right (And.right (And.right (And.right (And.right (And.right (And.right (And.right (And.right (And.right (And.right he))))))))))))))))
  have d17 : (x 17) = .bool true := And.left (And.right (And.right (And.right (And.right (And.right (And.right (And.right (And.right (And.right (And.right (And.right (And.right (And.right (And.right (And.right (And.right (And.right he)))))))))))))))))
  have d18 : (x 18) = .bool true := And.left (And.right (And.right (And.right (And.right (And.right (And.right (And.right (And.right (And.right (And.right (And.right (And.right (And.right (And.right (And.right (And.right (And.right (And.right he))))))))))))))))))
  have d19 : (x 19) = .pointer (some ⟨bs, 1, none⟩) := And.left (And.right (And.right (And.right (And.right (And.right (And.right (And.right (And.right (And.right (And.right (And.right (And.right (And.right (And.right (And.right (And.right (And.right (And.right (And.right he)))))))))))))))))))
  have d20 : (x 20) = .slice (some ⟨pb, po, none⟩) mp cP := And.left (And.right (And.right (And.right (And.right (And.right (And.right (And.right (And.right (And.right (And.right (And.right (And.right (And.right (And.right (And.right (And.right (And.right (And.right (And.right (And.right he))))))))))))))))))))
  have d21 : (x 21) = .int .i64 (m1 : Int) := And.left (And.right (And.right (And.right (And.right (And.right (And.right (And.right (And.right (And.right (And.right (And.right (And.right (And.right (And.right (And.right (And.right (And.right (And.right (And.right (And.right (And.right he)))))))))))))))))))))
  have d22 : (x 22) = .pointer (some ⟨pb, po + m1 * 7, none⟩) := And.left (And.right (And.right (And.right (And.right (And.right (And.right (And.right (And.right (And.right (And.right (And.right (And.right (And.right (And.right (And.right (And.right (And.right (And.right (And.right (And.right (And.right (And.right he))))))))))))))))))))))
  have d23 : (x 23) = .pointer (some ⟨pb, po + m1 * 7 + 5, none⟩) := And.left (And.right (And.right (And.right (And.right (And.right (And.right (And.right (And.right (And.right (And.right (And.right (And.right (And.right (And.right (And.right (And.right (And.right (And.right (And.right (And.right (And.right (And.right (And.right he)))))))))))))))))))))))
  have d24 : (x 24) = .bool true := And.left (And.right (And.right (And.right (And.right (And.right (And.right (And.right (And.right (And.right (And.right (And.right (And.right (And.right (And.right (And.right (And.right (And.right (And.right (And.right (And.right (And.right (And.right (And.right (And.right he))))))))))))))))))))))))
  have d25 : (x 25) = .bool false := And.left (And.right (And.right (And.right (And.right (And.right (And.right (And.right (And.right (And.right (And.right (And.right (And.right (And.right (And.right (And.right (And.right (And.right (And.right (And.right (And.right (And.right (And.right (And.right (And.right (And.right he)))))))))))))))))))))))))
  have d26 : (x 26) = .bool false := And.left (And.right (And.right (And.right (And.right (And.right (And.right (And.right (And.right (And.right (And.right (And.right (And.right (And.right (And.right (And.right (And.right (And.right (And.right (And.right (And.right (And.right (And.right (And.right (And.right (And.right (And.right he))))))))))))))))))))))))))
  have d27 : (x 27) = .bool false := And.left (And.right (And.right (And.right (And.right (And.right (And.right (And.right (And.right (And.right (And.right (And.right (And.right (And.right (And.right (And.right (And.right (And.right (And.right (And.right (And.right (And.right (And.right (And.right (And.right (And.right (And.right (And.right he)))))))))))))))))))))))))))
  clear he
  refine ⟨?_⟩
  simp only [putsFrom, Act.put, List.setIfInBounds_toArray, List.set_cons_zero, List.set_cons_succ, Nat.reduceAdd, d0, d1, d2, d3, d4, d5, d6, d7, d8, d9, d10, d11, d12, d13, d14, d15, d16, d17, d18, d19, d20, d21, d22, d23, d24, d25, d26, d27]
  clear d0 d1 d2 d3 d4 d5 d6 d7 d8 d9 d10 d11 d12 d13 d14 d15 d16 d17 d18 d19 d20 d21 d22 d23 d24 d25 d26 d27
  exact hE _ hg

set_option maxRecDepth 20000 in
set_option maxHeartbeats 4000000 in
theorem dir13_no {W : World} {Q : Exit → Act → World → Prop} {s0 s1 s2 s3 s5 s8 s11 s12 s13 s14 s15 s16 s17 s18 s19 s20 s21 s22 s23 s24 s25 s26 s27 s28 s29 s30 s31 s32 s33 s34 s35 s36 s37 s38 s39 s40 s41 s42 s43 s44 s45 s46 s47 s48 s49 s50 s51 s52 s53 s54 s55 s56 s57 s58 s59 s60 s61 s62 s63 s64 s65 s66 s67 s68 s69 s70 s71 s72 s73 s74 s75 s76 s77 s78 s79 s80 s81 s82 s83 s84 s85 s86 s87 s88 s89 s90 s91 s92 s93 s94 s95 s96 s97 s98 s99 s100 s101 s102 s103 s104 s105 s106 s107 s108 s109 s110 s111 s112 s113 : Value} (bs b2 off2 k n ct tb tf c4 : Nat) (hb2 : b2 < W.heap.size) (X0 : W.cell? ⟨b2, off2 + k, none⟩ = some (.slice (some ⟨tb, tf, none⟩) 1 c4)) (htb : tb < W.heap.size) (Y0 : W.cell? ⟨tb, tf, none⟩ = some (.int .i64 6)) (i1 : (k : Int) < (n : Int)) (z : Int)
    (hE : ∀ u, Kp W u → Q .normal { tmps := #[s0, s1, s2, s3, .slice (some ⟨b2, off2, none⟩) n ct, s5, .int .i64 (k : Int), .pointer (some ⟨bs, 0, none⟩), s8, .int .i64 z, .bool false, s11, s12, s13, s14, s15, s16, s17, s18, s19, s20, s21, s22, s23, s24, s25, s26, s27, s28, s29, s30, s31, s32, s33, s34, s35, s36, s37, s38, s39, s40, s41, s42, s43, s44, s45, s46, s47, s48, s49, s50, s51, s52, s53, s54, s55, s56, s57, s58, s59, s60, s61, s62, s63, s64, s65, s66, s67, s68, s69, s70, s71, s72, s73, s74, s75, .slice (some ⟨b2, off2, none⟩) n ct, .int .i64 (k : Int), .pointer (some ⟨b2, off2 + k, none⟩), .slice (some ⟨tb, tf, none⟩) 1 c4, .int .i64 1, .bool false, .bool false, .slice (some ⟨b2, off2, none⟩) n ct, .int .i64 (k : Int), .pointer (some ⟨b2, off2 + k, none⟩), .slice (some ⟨tb, tf, none⟩) 1 c4, .pointer (some ⟨tb, tf, none⟩), .pointer (some ⟨tb, tf, none⟩), .int .i64 6, .bool false, .bool false, .bool false, .bool false, .bool false, .bool false, .bool false, undef, undef, undef, undef, undef, undef, undef, undef, undef, undef, undef, undef, undef, undef, undef, .bool false, .bool false], defers := [] } u) :
    (Code.region 13 (regArr Try.f10 13) true).wp Try.prog Q { tmps := #[s0, s1, s2, s3, .slice (some ⟨b2, off2, none⟩) n ct, s5, .int .i64 (k : Int), .pointer (some ⟨bs, 0, none⟩), s8, .int .i64 z, .bool false, s11, s12, s13, s14, s15, s16, s17, s18, s19, s20, s21, s22, s23, s24, s25, s26, s27, s28, s29, s30, s31, s32, s33, s34, s35, s36, s37, s38, s39, s40, s41, s42, s43, s44, s45, s46, s47, s48, s49, s50, s51, s52, s53, s54, s55, s56, s57, s58, s59, s60, s61, s62, s63, s64, s65, s66, s67, s68, s69, s70, s71, s72, s73, s74, s75, s76, s77, s78, s79, s80, s81, s82, s83, s84, s85, s86, s87, s88, s89, s90, s91, s92, s93, s94, s95, s96, s97, s98, s99, s100, s101, s102, s103, s104, s105, s106, s107, s108, s109, s110, s111, s112, s113], defers := [] } W := by
  simp only [regArr, Try.f10, Option.map_some, Option.getD_some, regOf, if_true, if_false, List.append_nil, List.nil_append, List.toList_toArray, Nat.reduceEqDiff, reduceIte]
  refine wp_region_kp [[], [], [0, 1], [2], [3], [4], [5], [6], [6], [6, 7, 8], [6, 9], [6, 10], [6, 11], [6, 12], [6, 13], [6], [6, 14, 15], [6, 16], [17], [18], [18, 19], [20], [20], [20, 21, 22], [20, 23], [20, 24], [20, 25], [20, 26], [20], [20, 28], [20], [20, 29, 30], [20, 31], [20, 32], [20, 27, 33], [20, 34], [18, 20, 35], [18, 36]] (fun u => Kp W u)
    [fun (y : Value) (u : World) => y = (.slice (some ⟨b2, off2, none⟩) n ct : Value),
     fun (y : Value) (u : World) => y = (.int .i64 (k : Int) : Value),
     fun (y : Value) (u : World) => y = (.pointer (some ⟨b2, off2 + k, none⟩) : Value),
     fun (y : Value) (u : World) => y = (.slice (some ⟨tb, tf, none⟩) 1 c4 : Value),
     fun (y : Value) (u : World) => y = (.int .i64 1 : Value),
     fun (y : Value) (u : World) => y = (.bool false : Value),
     fun (y : Value) (u : World) => y = (.bool false : Value),
     fun (y : Value) (u : World) => y = (.slice (some ⟨b2, off2, none⟩) n ct : Value),
     fun (y : Value) (u : World) => y = (.int .i64 (k : Int) : Value),
     fun (y : Value) (u : World) => y = (.pointer (some ⟨b2, off2 + k, none⟩) : Value),
     fun (y : Value) (u : World) => y = (.slice (some ⟨tb, tf, none⟩) 1 c4 : Value),
     fun (y : Value) (u : World) => y = (.pointer (some ⟨tb, tf, none⟩) : Value),
     fun (y : Value) (u : World) => y = (.pointer (some ⟨tb, tf, none⟩) : Value),
     fun (y : Value) (u : World) => y = (.int .i64 6 : Value),
     fun (y : Value) (u : World) => y = (.bool false : Value),
     fun (y : Value) (u : World) => y = (.bool false : Value),
     fun (y : Value) (u : World) => y = (.bool false : Value),
     fun (y : Value) (u : World) => y = (.bool false : Value),
     fun (y : Value) (u : World) => y = (.bool false : Value),
     fun (y : Value) (u : World) => y = (.bool false : Value),
     fun (y : Value) (u : World) => y = (.bool false : Value),
     fun (y : Value) (u : World) => y = (undef : Value),
     fun (y : Value) (u : World) => y = (undef : Value),
     fun (y : Value) (u : World) => y = (undef : Value),
     fun (y : Value) (u : World) => y = (undef : Value),
     fun (y : Value) (u : World) => y = (undef : Value),
     fun (y : Value) (u : World) => y = (undef : Value),
     fun (y : Value) (u : World) => y = (undef : Value),
     fun (y : Value) (u : World) => y = (undef : Value),
     fun (y : Value) (u : World) => y = (undef : Value),
     fun (y : Value) (u : World) => y = (undef : Value),
     fun (y : Value) (u : World) => y = (undef : Value),
     fun (y : Value) (u : World) => y = (undef : Value),
     fun (y : Value) (u : World) => y = (undef : Value),
     fun (y : Value) (u : World) => y = (undef : Value),
     fun (y : Value) (u : World) => y = (undef : Value),
     fun (y : Value) (u : World) => y = (.bool false : Value),
     fun (y : Value) (u : World) => y = (.bool false : Value)]
    (by kernel_rfl) (by kernel_rfl) (by kernel_rfl) (by kernel_rfl) ((Kp.refl _).drew) (fun _ _ hk h => h.trans hk) ⟨fun _ _ _ _ h => h, fun _ _ _ _ h => h, fun _ _ _ _ h => h, fun _ _ _ _ h => h, fun _ _ _ _ h => h, fun _ _ _ _ h => h, fun _ _ _ _ h => h, fun _ _ _ _ h => h, fun _ _ _ _ h => h, fun _ _ _ _ h => h, fun _ _ _ _ h => h, fun _ _ _ _ h => h, fun _ _ _ _ h => h, fun _ _ _ _ h => h, fun _ _ _ _ h => h, fun _ _ _ _ h => h, fun _ _ _ _ h => h, fun _ _ _ _ h => h, fun _ _ _ _ h => h, fun _ _ _ _ h => h, fun _ _ _ _ h => h, fun _ _ _ _ h => h, fun _ _ _ _ h => h, fun _ _ _ _ h => h, fun _ _ _ _ h => h, fun _ _ _ _ h => h, fun _ _ _ _ h => h, fun _ _ _ _ h => h, fun _ _ _ _ h => h, fun _ _ _ _ h => h, fun _ _ _ _ h => h, fun _ _ _ _ h => h, fun _ _ _ _ h => h, fun _ _ _ _ h => h, fun _ _ _ _ h => h, fun _ _ _ _ h => h, fun _ _ _ _ h => h, fun _ _ _ _ h => h, trivial⟩ ⟨?sf0, ?sf1, ?sf2, ?sf3, ?sf4, ?sf5, ?sf6, ?sf7, ?sf8, ?sf9, ?sf10, ?sf11, ?sf12, ?sf13, ?sf14, ?sf15, ?sf16, ?sf17, ?sf18, ?sf19, ?sf20, ?sf21, ?sf22, ?sf23, ?sf24, ?sf25, ?sf26, ?sf27, ?sf28, ?sf29, ?sf30, ?sf31, ?sf32, ?sf33, ?sf34, ?sf35, ?sf36, ?sf37, trivial⟩ ?hEf
  case sf0 =>
    refine OpStepK.by_ ?_
    intro a x u ht hs hg hd K hK
    clear hd
    refine OpGoal.live (wanted_free (by kernel_rfl)) ?_
    have e4 : a.eval (Operand.tmp 4) = (.slice (some ⟨b2, off2, none⟩) n ct : Value) := (ht 4).trans (by kernel_rfl)
    clear ht hs
    refine BigFrame.wp_move _ rfl ?_
    exact hK.out _ _ (Kp.refl _) e4
  case sf1 =>
    refine OpStepK.by_ ?_
    intro a x u ht hs hg hd K hK
    clear hd
    refine OpGoal.live (wanted_free (by kernel_rfl)) ?_
    have e6 : a.eval (Operand.tmp 6) = (.int .i64 (k : Int) : Value) := (ht 6).trans (by kernel_rfl)
    clear ht hs
    refine BigFrame.wp_move _ rfl ?_
    exact hK.out _ _ (Kp.refl _) e6
  case sf2 =>
    refine OpStepK.by_ ?_
    intro a x u ht hs hg hd K hK
    have d0 : (x 0) = .slice (some ⟨b2, off2, none⟩) n ct := And.left hd
    have d1 : (x 1) = .int .i64 (k : Int) := And.left (And.right hd)
    clear hd
    refine OpGoal.live (wanted_free (by kernel_rfl)) ?_
    have e76 : a.tmps[76]? = some (.slice (some ⟨b2, off2, none⟩) n ct : Value) := (hs 76).trans (Eq.trans (b := some (x 0)) (by kernel_rfl) (by rw [d0]))
    have e77 : a.tmps[77]? = some (.int .i64 (k : Int) : Value) := (hs 77).trans (Eq.trans (b := some (x 1)) (by kernel_rfl) (by rw [d1]))
    clear d0 d1
    clear ht hs
    go_simp
    exact hK.out _ _ (Kp.refl _) rfl
  case sf3 =>
    refine OpStepK.by_ ?_
    intro a x u ht hs hg hd K hK
    have d2 : (x 2) = .pointer (some ⟨b2, off2 + k, none⟩) := And.left hd
    clear hd
    refine OpGoal.live (wanted_free (by kernel_rfl)) ?_
    have e78 : a.tmps[78]? = some (.pointer (some ⟨b2, off2 + k, none⟩) : Value) := (hs 78).trans (Eq.trans (b := some (x 2)) (by kernel_rfl) (by rw [d2]))
    clear d2
    clear ht hs
    have q0 := cell_kp hg hb2 X0
    go_simp
    exact hK.out _ _ (Kp.refl _) rfl
  case sf4 =>
    refine OpStepK.by_ ?_
    intro a x u ht hs hg hd K hK
    have d3 : (x 3) = .slice (some ⟨tb, tf, none⟩) 1 c4 := And.left hd
    clear hd
    refine OpGoal.live (wanted_free (by kernel_rfl)) ?_
    have e79 : a.tmps[79]? = some (.slice (some ⟨tb, tf, none⟩) 1 c4 : Value) := (hs 79).trans (Eq.trans (b := some (x 3)) (by kernel_rfl) (by rw [d3]))
    clear d3
    clear ht hs
    go_simp
    exact hK.out _ _ (Kp.refl _) rfl
  case sf5 =>
    refine OpStepK.by_ ?_
    intro a x u ht hs hg hd K hK
    have d4 : (x 4) = .int .i64 1 := And.left hd
    clear hd
    refine OpGoal.live (wanted_free (by kernel_rfl)) ?_
    have e80 : a.tmps[80]? = some (.int .i64 1 : Value) := (hs 80).trans (Eq.trans (b := some (x 4)) (by kernel_rfl) (by rw [d4]))
    clear d4
    clear ht hs
    go_simp
    exact hK.out _ _ (Kp.refl _) rfl
  case sf6 =>
    refine OpStepK.by_ ?_
    intro a x u ht hs hg hd K hK
    have d5 : (x 5) = .bool false := And.left hd
    clear hd
    refine OpGoal.live (wanted_free (by kernel_rfl)) ?_
    have e81 : a.eval (Operand.tmp 81) = (.bool false : Value) := (ht 81).trans (Eq.trans (b := x 5) (by kernel_rfl) d5)
    clear d5
    clear ht hs
    refine BigFrame.wp_move _ rfl ?_
    exact hK.out _ _ (Kp.refl _) e81
  case sf7 =>
    refine OpStepK.by_ ?_
    intro a x u ht hs hg hd K hK
    have d6 : (x 6) = .bool false := And.left hd
    clear hd
    refine OpGoal.live (wanted_yes (j := 6) (d := 82) (by kernel_rfl) (by kernel_rfl) ((hs 82).trans (Eq.trans (b := some (x 6)) (by kernel_rfl) (by rw [d6])))) ?_
    have e4 : a.eval (Operand.tmp 4) = (.slice (some ⟨b2, off2, none⟩) n ct : Value) := (ht 4).trans (by kernel_rfl)
    clear d6
    clear ht hs
    refine BigFrame.wp_move _ rfl ?_
    exact hK.out _ _ (Kp.refl _) e4
  case sf8 =>
    refine OpStepK.by_ ?_
    intro a x u ht hs hg hd K hK
    have d6 : (x 6) = .bool false := And.left hd
    clear hd
    refine OpGoal.live (wanted_yes (j := 6) (d := 82) (by kernel_rfl) (by kernel_rfl) ((hs 82).trans (Eq.trans (b := some (x 6)) (by kernel_rfl) (by rw [d6])))) ?_
    have e6 : a.eval (Operand.tmp 6) = (.int .i64 (k : Int) : Value) := (ht 6).trans (by kernel_rfl)
    clear d6
    clear ht hs
    refine BigFrame.wp_move _ rfl ?_
    exact hK.out _ _ (Kp.refl _) e6
  case sf9 =>
    refine OpStepK.by_ ?_
    intro a x u ht hs hg hd K hK
    have d6 : (x 6) = .bool false := And.left hd
    have d7 : (x 7) = .slice (some ⟨b2, off2, none⟩) n ct := And.left (And.right hd)
    have d8 : (x 8) = .int .i64 (k : Int) := And.left (And.right (And.right hd))
    clear hd
    refine OpGoal.live (wanted_yes (j := 6) (d := 82) (by kernel_rfl) (by kernel_rfl) ((hs 82).trans (Eq.trans (b := some (x 6)) (by kernel_rfl) (by rw [d6])))) ?_
    have e83 : a.tmps[83]? = some (.slice (some ⟨b2, off2, none⟩) n ct : Value) := (hs 83).trans (Eq.trans (b := some (x 7)) (by kernel_rfl) (by rw [d7]))
    have e84 : a.tmps[84]? = some (.int .i64 (k : Int) : Value) := (hs 84).trans (Eq.trans (b := some (x 8)) (by kernel_rfl) (by rw [d8]))
    clear d6 d7 d8
    clear ht hs
    go_simp
    exact hK.out _ _ (Kp.refl _) rfl
  case sf10 =>
    refine OpStepK.by_ ?_
    intro a x u ht hs hg hd K hK
    have d6 : (x 6) = .bool false := And.left hd
    have d9 : (x 9) = .pointer (some ⟨b2, off2 + k, none⟩) := And.left (And.right hd)
    clear hd
    refine OpGoal.live (wanted_yes (j := 6) (d := 82) (by kernel_rfl) (by kernel_rfl) ((hs 82).trans (Eq.trans (b := some (x 6)) (by kernel_rfl) (by rw [d6])))) ?_
    have e85 : a.tmps[85]? = some (.pointer (some ⟨b2, off2 + k, none⟩) : Value) := (hs 85).trans (Eq.trans (b := some (x 9)) (by kernel_rfl) (by rw [d9]))
    clear d6 d9
    clear ht hs
    have q0 := cell_kp hg hb2 X0
    go_simp
    exact hK.out _ _ (Kp.refl _) rfl
  case sf11 =>
    refine OpStepK.by_ ?_
    intro a x u ht hs hg hd K hK
    have d6 : (x 6) = .bool false := And.left hd
    have d10 : (x 10) = .slice (some ⟨tb, tf, none⟩) 1 c4 := And.left (And.right hd)
    clear hd
    refine OpGoal.live (wanted_yes (j := 6) (d := 82) (by kernel_rfl) (by kernel_rfl) ((hs 82).trans (Eq.trans (b := some (x 6)) (by kernel_rfl) (by rw [d6])))) ?_
    have e86 : a.tmps[86]? = some (.slice (some ⟨tb, tf, none⟩) 1 c4 : Value) := (hs 86).trans (Eq.trans (b := some (x 10)) (by kernel_rfl) (by rw [d10]))
    clear d6 d10
    clear ht hs
    go_simp
    exact hK.out _ _ (Kp.refl _) rfl
  case sf12 =>
    refine OpStepK.by_ ?_
    intro a x u ht hs hg hd K hK
    have d6 : (x 6) = .bool false := And.left hd
    have d11 : (x 11) = .pointer (some ⟨tb, tf, none⟩) := And.left (And.right hd)
    clear hd
    refine OpGoal.live (wanted_yes (j := 6) (d := 82) (by kernel_rfl) (by kernel_rfl) ((hs 82).trans (Eq.trans (b := some (x 6)) (by kernel_rfl) (by rw [d6])))) ?_
    have e87 : a.tmps[87]? = some (.pointer (some ⟨tb, tf, none⟩) : Value) := (hs 87).trans (Eq.trans (b := some (x 11)) (by kernel_rfl) (by rw [d11]))
    clear d6 d11
    clear ht hs
    go_simp
    exact hK.out _ _ (Kp.refl _) rfl
  case sf13 =>
    refine OpStepK.by_ ?_
    intro a x u ht hs hg hd K hK
    have d6 : (x 6) = .bool false := And.left hd
    have d12 : (x 12) = .pointer (some ⟨tb, tf, none⟩) := And.left (And.right hd)
    clear hd
    refine OpGoal.live (wanted_yes (j := 6) (d := 82) (by kernel_rfl) (by kernel_rfl) ((hs 82).trans (Eq.trans (b := some (x 6)) (by kernel_rfl) (by rw [d6])))) ?_
    have e88 : a.tmps[88]? = some (.pointer (some ⟨tb, tf, none⟩) : Value) := (hs 88).trans (Eq.trans (b := some (x 12)) (by kernel_rfl) (by rw [d12]))
    clear d6 d12
    clear ht hs
    have q0 := cell_kp hg htb Y0
    go_simp
    exact hK.out _ _ (Kp.refl _) rfl
  case sf14 =>
    refine OpStepK.by_ ?_
    intro a x u ht hs hg hd K hK
    have d6 : (x 6) = .bool false := And.left hd
    have d13 : (x 13) = .int .i64 6 := And.left (And.right hd)
    clear hd
    refine OpGoal.live (wanted_yes (j := 6) (d := 82) (by kernel_rfl) (by kernel_rfl) ((hs 82).trans (Eq.trans (b := some (x 6)) (by kernel_rfl) (by rw [d6])))) ?_
    have e89 : a.tmps[89]? = some (.int .i64 6 : Value) := (hs 89).trans (Eq.trans (b := some (x 13)) (by kernel_rfl) (by rw [d13]))
    clear d6 d13
    clear ht hs
    go_simp
    exact hK.out _ _ (Kp.refl _) rfl
  case sf15 =>
    refine OpStepK.by_ ?_
    intro a x u ht hs hg hd K hK
    have d6 : (x 6) = .bool false := And.left hd
    clear hd
    refine OpGoal.live (wanted_yes (j := 6) (d := 82) (by kernel_rfl) (by kernel_rfl) ((hs 82).trans (Eq.trans (b := some (x 6)) (by kernel_rfl) (by rw [d6])))) ?_
    have e10 : a.eval (Operand.tmp 10) = (.bool false : Value) := (ht 10).trans (by kernel_rfl)
    clear d6
    clear ht hs
    refine BigFrame.wp_move _ rfl ?_
    exact hK.out _ _ (Kp.refl _) e10
  case sf16 =>
    refine OpStepK.by_ ?_
    intro a x u ht hs hg hd K hK
    have d6 : (x 6) = .bool false := And.left hd
    have d14 : (x 14) = .bool false := And.left (And.right hd)
    have d15 : (x 15) = .bool false := And.left (And.right (And.right hd))
    clear hd
    refine OpGoal.live (wanted_yes (j := 6) (d := 82) (by kernel_rfl) (by kernel_rfl) ((hs 82).trans (Eq.trans (b := some (x 6)) (by kernel_rfl) (by rw [d6])))) ?_
    have e90 : a.tmps[90]? = some (.bool false : Value) := (hs 90).trans (Eq.trans (b := some (x 14)) (by kernel_rfl) (by rw [d14]))
    have e91 : a.tmps[91]? = some (.bool false : Value) := (hs 91).trans (Eq.trans (b := some (x 15)) (by kernel_rfl) (by rw [d15]))
    clear d6 d14 d15
    clear ht hs
    go_simp
    exact hK.out _ _ (Kp.refl _) rfl
  case sf17 =>
    refine OpStepK.by_ ?_
    intro a x u ht hs hg hd K hK
    have d6 : (x 6) = .bool false := And.left hd
    have d16 : (x 16) = .bool false := And.left (And.right hd)
    clear hd
    refine OpGoal.live (wanted_free (by kernel_rfl)) ?_
    have e82 : a.tmps[82]? = some (.bool false : Value) := (hs 82).trans (Eq.trans (b := some (x 6)) (by kernel_rfl) (by rw [d6]))
    have e92 : a.tmps[92]? = some (.bool false : Value) := (hs 92).trans (Eq.trans (b := some (x 16)) (by kernel_rfl) (by rw [d16]))
    clear d6 d16
    clear ht hs
    go_simp
    exact hK.out _ _ (Kp.refl _) rfl
  case sf18 =>
    refine OpStepK.by_ ?_
    intro a x u ht hs hg hd K hK
    have d17 : (x 17) = .bool false := And.left hd
    clear hd
    refine OpGoal.live (wanted_free (by kernel_rfl)) ?_
    have e93 : a.eval (Operand.tmp 93) = (.bool false : Value) := (ht 93).trans (Eq.trans (b := x 17) (by kernel_rfl) d17)
    clear d17
    clear ht hs
    refine BigFrame.wp_move _ rfl ?_
    exact hK.out _ _ (Kp.refl _) e93
  case sf19 =>
    refine OpStepK.by_ ?_
    intro a x u ht hs hg hd K hK
    have d18 : (x 18) = .bool false := And.left hd
    clear hd
    refine OpGoal.live (wanted_yes (j := 18) (d := 94) (by kernel_rfl) (by kernel_rfl) ((hs 94).trans (Eq.trans (b := some (x 18)) (by kernel_rfl) (by rw [d18])))) ?_
    have e10 : a.eval (Operand.tmp 10) = (.bool false : Value) := (ht 10).trans (by kernel_rfl)
    clear d18
    clear ht hs
    refine BigFrame.wp_move _ rfl ?_
    exact hK.out _ _ (Kp.refl _) e10
  case sf20 =>
    refine OpStepK.by_ ?_
    intro a x u ht hs hg hd K hK
    have d18 : (x 18) = .bool false := And.left hd
    have d19 : (x 19) = .bool false := And.left (And.right hd)
    clear hd
    refine OpGoal.live (wanted_yes (j := 18) (d := 94) (by kernel_rfl) (by kernel_rfl) ((hs 94).trans (Eq.trans (b := some (x 18)) (by kernel_rfl) (by rw [d18])))) ?_
    have e95 : a.eval (Operand.tmp 95) = (.bool false : Value) := (ht 95).trans (Eq.trans (b := x 19) (by kernel_rfl) d19)
    clear d18 d19
    clear ht hs
    refine BigFrame.wp_move _ rfl ?_
    exact hK.out _ _ (Kp.refl _) e95
  case sf21 =>
    refine OpStepK.by_ ?_
    intro a x u ht hs hg hd K hK
    have d20 : (x 20) = .bool false := And.left hd
    clear hd
    refine OpGoal.dead (wanted_no (j := 20) (d := 96) (b := true) (c := false) (by kernel_rfl) (by kernel_rfl) ((hs 96).trans (Eq.trans (b := some (x 20)) (by kernel_rfl) (by rw [d20]))) (by decide)) ?_
    exact hK.out _ _ (Kp.refl _) rfl
  case sf22 =>
    refine OpStepK.by_ ?_
    intro a x u ht hs hg hd K hK
    have d20 : (x 20) = .bool false := And.left hd
    clear hd
    refine OpGoal.dead (wanted_no (j := 20) (d := 96) (b := true) (c := false) (by kernel_rfl) (by kernel_rfl) ((hs 96).trans (Eq.trans (b := some (x 20)) (by kernel_rfl) (by rw [d20]))) (by decide)) ?_
    exact hK.out _ _ (Kp.refl _) rfl
  case sf23 =>
    refine OpStepK.by_ ?_
    intro a x u ht hs hg hd K hK
    have d20 : (x 20) = .bool false := And.left hd
    have d21 : (x 21) = undef := And.left (And.right hd)
    have d22 : (x 22) = undef := And.left (And.right (And.right hd))
    clear hd
    refine OpGoal.dead (wanted_no (j := 20) (d := 96) (b := true) (c := false) (by kernel_rfl) (by kernel_rfl) ((hs 96).trans (Eq.trans (b := some (x 20)) (by kernel_rfl) (by rw [d20]))) (by decide)) ?_
    exact hK.out _ _ (Kp.refl _) rfl
  case sf24 =>
    refine OpStepK.by_ ?_
    intro a x u ht hs hg hd K hK
    have d20 : (x 20) = .bool false := And.left hd
    have d23 : (x 23) = undef := And.left (And.right hd)
    clear hd
    refine OpGoal.dead (wanted_no (j := 20) (d := 96) (b := true) (c := false) (by kernel_rfl) (by kernel_rfl) ((hs 96).trans (Eq.trans (b := some (x 20)) (by kernel_rfl) (by rw [d20]))) (by decide)) ?_
    exact hK.out _ _ (Kp.refl _) rfl
  case sf25 =>
    refine OpStepK.by_ ?_
    intro a x u ht hs hg hd K hK
    have d20 : (x 20) = .bool false := And.left hd
    have d24 : (x 24) = undef := And.left (And.right hd)
    clear hd
    refine OpGoal.dead (wanted_no (j := 20) (d := 96) (b := true) (c := false) (by kernel_rfl) (by kernel_rfl) ((hs 96).trans (Eq.trans (b := some (x 20)) (by kernel_rfl) (by rw [d20]))) (by decide)) ?_
    exact hK.out _ _ (Kp.refl _) rfl
  case sf26 =>
    refine OpStepK.by_ ?_
    intro a x u ht hs hg hd K hK
    have d20 : (x 20) = .bool false := And.left hd
    have d25 : (x 25) = undef := And.left (And.right hd)
    clear hd
    refine OpGoal.dead (wanted_no (j := 20) (d := 96) (b := true) (c := false) (by kernel_rfl) (by kernel_rfl) ((hs 96).trans (Eq.trans (b := some (x 20)) (by kernel_rfl) (by rw [d20]))) (by decide)) ?_
    exact hK.out _ _ (Kp.refl _) rfl
  case sf27 =>
    refine OpStepK.by_ ?_
    intro a x u ht hs hg hd K hK
    have d20 : (x 20) = .bool false := And.left hd
    have d26 : (x 26) = undef := And.left (And.right hd)
    clear hd
    refine OpGoal.dead (wanted_no (j := 20) (d := 96) (b := true) (c := false) (by kernel_rfl) (by kernel_rfl) ((hs 96).trans (Eq.trans (b := some (x 20)) (by kernel_rfl) (by rw [d20]))) (by decide)) ?_
    exact hK.out _ _ (Kp.refl _) rfl
  case sf28 =>
    refine OpStepK.by_ ?_
    intro a x u ht hs hg hd K hK
    have d20 : (x 20) = .bool false := And.left hd
    clear hd
    refine OpGoal.dead (wanted_no (j := 20) (d := 96) (b := true) (c := false) (by kernel_rfl) (by kernel_rfl) ((hs 96).trans (Eq.trans (b := some (x 20)) (by kernel_rfl) (by rw [d20]))) (by decide)) ?_
    exact hK.out _ _ (Kp.refl _) rfl
  case sf29 =>
    refine OpStepK.by_ ?_
    intro a x u ht hs hg hd K hK
    have d20 : (x 20) = .bool false := And.left hd
    have d28 : (x 28) = undef := And.left (And.right hd)
    clear hd
    refine OpGoal.dead (wanted_no (j := 20) (d := 96) (b := true) (c := false) (by kernel_rfl) (by kernel_rfl) ((hs 96).trans (Eq.trans (b := some (x 20)) (by kernel_rfl) (by rw [d20]))) (by decide)) ?_
    exact hK.out _ _ (Kp.refl _) rfl
  case sf30 =>
    refine OpStepK.by_ ?_
    intro a x u ht hs hg hd K hK
    have d20 : (x 20) = .bool false := And.left hd
    clear hd
    refine OpGoal.dead (wanted_no (j := 20) (d := 96) (b := true) (c := false) (by kernel_rfl) (by kernel_rfl) ((hs 96).trans (Eq.trans (b := some (x 20)) (by kernel_rfl) (by rw [d20]))) (by decide)) ?_
    exact hK.out _ _ (Kp.refl _) rfl
  case sf31 =>
    refine OpStepK.by_ ?_
    intro a x u ht hs hg hd K hK
    have d20 : (x 20) = .bool false := And.left hd
    have d29 : (x 29) = undef := And.left (And.right hd)
    have d30 : (x 30) = undef := And.left (And.right (And.right hd))
    clear hd
    refine OpGoal.dead (wanted_no (j := 20) (d := 96) (b := true) (c := false) (by kernel_rfl) (by kernel_rfl) ((hs 96).trans (Eq.trans (b := some (x 20)) (by kernel_rfl) (by rw [d20]))) (by decide)) ?_
    exact hK.out _ _ (Kp.refl _) rfl
  case sf32 =>
    refine OpStepK.by_ ?_
    intro a x u ht hs hg hd K hK
    have d20 : (x 20) = .bool false := And.left hd
    have d31 : (x 31) = undef := And.left (And.right hd)
    clear hd
    refine OpGoal.dead (wanted_no (j := 20) (d := 96) (b := true) (c := false) (by kernel_rfl) (by kernel_rfl) ((hs 96).trans (Eq.trans (b := some (x 20)) (by kernel_rfl) (by rw [d20]))) (by decide)) ?_
    exact hK.out _ _ (Kp.refl _) rfl
  case sf33 =>
    refine OpStepK.by_ ?_
    intro a x u ht hs hg hd K hK
    have d20 : (x 20) = .bool false := And.left hd
    have d32 : (x 32) = undef := And.left (And.right hd)
    clear hd
    refine OpGoal.dead (wanted_no (j := 20) (d := 96) (b := true) (c := false) (by kernel_rfl) (by kernel_rfl) ((hs 96).trans (Eq.trans (b := some (x 20)) (by kernel_rfl) (by rw [d20]))) (by decide)) ?_
    exact hK.out _ _ (Kp.refl _) rfl
  case sf34 =>
    refine OpStepK.by_ ?_
    intro a x u ht hs hg hd K hK
    have d20 : (x 20) = .bool false := And.left hd
    have d27 : (x 27) = undef := And.left (And.right hd)
    have d33 : (x 33) = undef := And.left (And.right (And.right hd))
    clear hd
    refine OpGoal.dead (wanted_no (j := 20) (d := 96) (b := true) (c := false) (by kernel_rfl) (by kernel_rfl) ((hs 96).trans (Eq.trans (b := some (x 20)) (by kernel_rfl) (by rw [d20]))) (by decide)) ?_
    exact hK.out _ _ (Kp.refl _) rfl
  case sf35 =>
    refine OpStepK.by_ ?_
    intro a x u ht hs hg hd K hK
    have d20 : (x 20) = .bool false := And.left hd
    have d34 : (x 34) = undef := And.left (And.right hd)
    clear hd
    refine OpGoal.dead (wanted_no (j := 20) (d := 96) (b := true) (c := false) (by kernel_rfl) (by kernel_rfl) ((hs 96).trans (Eq.trans (b := some (x 20)) (by kernel_rfl) (by rw [d20]))) (by decide)) ?_
    exact hK.out _ _ (Kp.refl _) rfl
  case sf36 =>
    refine OpStepK.by_ ?_
    intro a x u ht hs hg hd K hK
    have d18 : (x 18) = .bool false := And.left hd
    have d20 : (x 20) = .bool false := And.left (And.right hd)
    have d35 : (x 35) = undef := And.left (And.right (And.right hd))
    clear hd
    refine OpGoal.live (wanted_yes (j := 18) (d := 94) (by kernel_rfl) (by kernel_rfl) ((hs 94).trans (Eq.trans (b := some (x 18)) (by kernel_rfl) (by rw [d18])))) ?_
    have e96 : a.tmps[96]? = some (.bool false : Value) := (hs 96).trans (Eq.trans (b := some (x 20)) (by kernel_rfl) (by rw [d20]))
    have e111 : a.tmps[111]? = some (undef : Value) := (hs 111).trans (Eq.trans (b := some (x 35)) (by kernel_rfl) (by rw [d35]))
    clear d18 d20 d35
    clear ht hs
    go_simp
    exact hK.out _ _ (Kp.refl _) rfl
  case sf37 =>
    refine OpStepK.by_ ?_
    intro a x u ht hs hg hd K hK
    have d18 : (x 18) = .bool false := And.left hd
    have d36 : (x 36) = .bool false := And.left (And.right hd)
    clear hd
    refine OpGoal.live (wanted_free (by kernel_rfl)) ?_
    have e94 : a.tmps[94]? = some (.bool false : Value) := (hs 94).trans (Eq.trans (b := some (x 18)) (by kernel_rfl) (by rw [d18]))
    have e112 : a.tmps[112]? = some (.bool false : Value) := (hs 112).trans (Eq.trans (b := some (x 36)) (by kernel_rfl) (by rw [d36]))
    clear d18 d36
    clear ht hs
    go_simp
    exact hK.out _ _ (Kp.refl _) rfl
  intro x u hg he
  have d0 : (x 0) = .slice (some ⟨b2, off2, none⟩) n ct := And.left he
  have d1 : (x 1) = .int .i64 (k : Int) := And.left (And.right he)
  have d2 : (x 2) = .pointer (some ⟨b2, off2 + k, none⟩) := And.left (And.right (And.right he))
  have d3 : (x 3) = .slice (some ⟨tb, tf, none⟩) 1 c4 := And.left (And.right (And.right (And.right he)))
  have d4 : (x 4) = .int .i64 1 := And.left (And.right (And.right (And.right (And.right he))))
  have d5 : (x 5) = .bool false := And.left (And.right (And.right (And.right (And.right (And.right he)))))
  have d6 : (x 6) = .bool false := And.left (And.right (And.right (And.right (And.right (And.right (And.right he))))))
  have d7 : (x 7) = .slice (some ⟨b2, off2, none⟩) n ct := And.left (And.right (And.right (And.right (And.right (And.right (And.right (And.right he)))))))
  have d8 : (x 8) = .int .i64 (k : Int) := And.left (And.right (And.right (And.right (And.right (And.right (And.right (And.right (And.right he))))))))
  have d9 : (x 9) = .pointer (some ⟨b2, off2 + k, none⟩) := And.left (And.right (And.right (And.right (And.right (And.right (And.right (And.right (And.right (And.right he)))))))))
  have d10 : (x 10) = .slice (some ⟨tb, tf, none⟩) 1 c4 := And.left (And.right (And.right (And.right (And.right (And.right (And.right (And.right (And.right (And.right (And.right he))))))))))
  have d11 : (x 11) = .pointer (some ⟨tb, tf, none⟩) := And.left (And.right (And.right (And.right (And.right (And.right (And.right (And.right (And.right (And.right (And.right (And.right he)))))))))))
  have d12 : (x 12) = .pointer (some ⟨tb, tf, none⟩) := And.left (And.right (And.right (And.right (And.right (And.right (And.right (And.right (And.right (And.right (And.right (And.right (And.right he))))))))))))
  have d13 : (x 13) = .int .i64 6 := And.left (And.right (And.right (And.right (And.right (And.right (And.right (And.right (And.right (And.right (And.right (And.right (And.right (And.right he)))))))))))))
  have d14 : (x 14) = .bool false := And.left (And.right (And.right (And.right (And.right (And.right (And.right (And.right (And.right (And.right (And.right (And.right (And.right (And.right (And.right he))))))))))))))
  have d15 : (x 15) = .bool false := And.left (And.right (And.right (And.right (And.right (And.right (And.right (And.right (And.right (And.right (And.right (And.right (And.right (And.right (And.right (And.right he)))))))))))))))
  have d16 : (x 16) = .bool false := And.left (And.right (And.right (And.right (And.right (And.right (And.right (And.right (And.right (And.right (And.right (And.right (And.right (And.right (And.right (And.right (And.right he))))))))))))))))
  have d17 : (x 17) = .bool false := And.left (And.right (And.right (And.right (And.right (And.right (And.right (And.right (And.right (And.right (And.right (And.right (And.right (And.right (And.right (And.right (And.right (And.right he)))))))))))))))))
  have d18 : (x 18) = .bool false := And.left (And.right (And.right (And.right (And.right (And.right (And.right (And.right (And.right (And.right (And.right (And.right (And.right (And.right (And.right (And.right (And.right (And.right (And.right he))))))))))))))))))
  have d19 : (x 19) = .bool false := And.left (And.right (And.right (And.right (And.right (And.right (And.right (And.right (And.right (And.right (And.right (And.right (And.right (And.right (And.right (And.right (And.right (And.right (And.right (And.right he)))))))))))))))))))
  have d20 : (x 20) = .bool false := And.left (And.right (And.right (And.right (And.right (And.right (And.right (And.right (And.right (And.right (And.right (And.right (And.right (And.right (And.right (And.right (And.right (And.right (And.right (And.right (And.right he))))))))))))))))))))
  have d21 : (x 21) = undef := And.left (And.right (And.right (And.right (And.right (And.right (And.right (And.right (And.right (And.right (And.right (And.right (And.right (And.right (And.right (And.right (And.right (And.right (And.right (And.right (And.right (And.right he)))))))))))))))))))))
  have d22 : (x 22) = undef := And.left (And.right (And.right (And.right (And.right (And.right (And.right (And.right (And.right (And.right (And.right (And.right (And.right (And.right (And.right (And.right (And.right (And.right (And.right (And.right (And.right (And.right (And.right he))))))))))))))))))))))
  have d23 : (x 23) = undef := And.left (And.right (And.right (And.right (And.right (And.right (And.right (And.right (And.right (And.right (And.right (And.right (And.right (And.right (And.right (And.right (And.right (And.right (And.right (And.right (And.right (And.right (And.right (And.right he)))))))))))))))))))))))
  have d24 : (x 24) = undef := And.left (And.right (And.right (And.right (And.right (And.right (And.right (And.right (And.right (And.right (And.right (And.right (And.right (And.right (And.right (And.right (And.right (And.right (And.right (And.right (And.right (And.right (And.right (And.right (And.right he))))))))))))))))))))))))
  have d25 : (x 25) = undef := And.left (And.right (And.right (And.right (And.right (And.right (And.right (And.right (And.right (And.right (And.right (And.right (And.right (And.right (And.right (And.right (And.right (And.right (And.right (And.right (And.right (And.right (And.right (And.right (And.right (And.right he)))))))))))))))))))))))))
  have d26 : (x 26) = undef := And.left (And.right (And.right (And.right (And.right (And.right (And.right (And.right (And.right (And.right (And.right (And.right (And.right (And.right (And.right (And.right (And.right (And.right (And.right (And.right (And.right (And.right (And.right (And.right (And.right (And.right (And.right he))))))))))))))))))))))))))
  have d27 : (x 27) = undef := And.left (And.right (And.right (And.right (And.right (And.right (And.right (And.right (And.right (And.right (And.right (And.right (And.right (And.right (And.right (And.right (And.right (And.right (And.right (And.right (And.right (And.right (And.right (And.right (And.right (And.right (And.right (And.right he)))))))))))))))))))))))))))
  have d28 : (x 28) = undef := And.left (And.right (And.right (And.right (And.right (And.right (And.right (And.right (And.right (And.right (And.right (And.right (And.right (And.right (And.right (And.right (And.right (And.right (And.right (And.right (And.right (And.right (And.right (And.right (And.right (And.right (And.right (And.right (And.right he))))))))))))))))))))))))))))
  have d29 : (x 29) = undef := And.left (And.right (And.right (And.right (And.right (And.right (And.right (And.right (And.right (And.right (And.right (And.right (And.right (And.right (And.right (And.right (And.right (And.right (And.right (And.right (And.right (And.right (And.right (And.right (And.right (And.right (And.right (And.right (And.right (And.right he)))))))))))))))))))))))))))))
  have d30 : (x 30) = undef := And.left (And.right (And.right (And.right (And.right (And.right (And.right (And.right (And.right (And.right (And.right (And.right (And.right (And.right (And.right (And.right (And.right (And.right (And.right (And.right (And.right (And.right (And.right (And.right (And.right (And.right (And.right (And.right (And.right (And.right (And.right he))))))))))))))))))))))))))))))
  have d31 : (x 31) = undef := And.left (And.right (And.right (And.right (And.right (And.right (And.right (And.right (And.right (And.right (And.right (And.right (And.right (And.right (And.right (And.right (And.right (And.right (And.right (And.right (And.right (And.right (And.right (And.right (And.right (And.right (And.right (And.right (And.right (And.right (And.right (And.right he)))))))))))))))))))))))))))))))
  have d32 : (x 32) = undef := And.left (And.right (And.right (And.right (And.right (And.right (And.right (And.right (And.right (And.right (And.right (And.right (And.right (And.right (And.right (And.right (And.right (And.right (And.right (And.right (And.right (And.right (And.right (And.right (And.right (And.right (And.right (And.right (And.right (And.right (And.right (And.right (And.right he))))))))))))))))))))))))))))))))
  have d33 : (x 33) = undef := And.left (And.right (And.right (And.right (And.right (And.right (And.right (And.right (And.right (And.right (And.right (And.right (And.right (And.right (And.right (And.right (And.right (And.right (And.right (And.right (And.right (And.right (And.right (And.right (And.right (And.right (And.right (And.right (And.right (And.right (And.right (And.right (And.right (And.right he)))))))))))))))))))))))))))))))))
  have d34 : (x 34) = undef := And.left (And.right (And.right (And.right (And.right (And.right (And.right (And.right (And.right (And.right (And.right (And.right (And.right (And.right (And.right (And.right (And.right (And.right (And.right (And.right (And.right (And.right (And.right (And.right (And.right (And.right (And.right (And.right (And.right (And.right (And.right (And.right (And.right (And.right (And.right he))))))))))))))))))))))))))))))))))
  have d35 : (x 35) = undef := And.left (And.right (And.right (And.right (And.right (And.right (And.right (And.right (And.right (And.right (And.right (And.right (And.right (And.right (And.right (And.right (And.right (And.right (And.right (And.right (And.right (And.right (And.right (And.right (And.right (And.right (And.right (And.right (And.right (And.right (And.right (And.right (And.right (And.right (And.right (And.right he)))))))))))))))))))))))))))))))))))
  have d36 : (x 36) = .bool false := And.left (And.right (And.right (And.right (And.right (And.right (And.right (And.right (And.right (And.right (And.right (And.right (And.right (And.right (And.right (And.right (And.right (And.right (And.right (And.right (And.right (And.right (And.right (And.right (And.right (And.right (And.right (And.right (And.right (And.right (And.right (And.right (And.right (And.right (And.right (And.right (And.right he))))))))))))))))))))))))))))))))))))
  have d37 : (x 37) = .bool false := And.left (And.right (And.right (And.right (And.right (And.right (And.right (And.right (And.right (And.right (And.right (And.right (And.right (And.right (And.right (And.right (And.right (And.right (And.right (And.right (And.right (And.right (And.right (And.right (And.right (And.right (And.right (And.right (And.right (And.right (And.right (And.right (And.right (And.right (And.right (And.right (And.right (And.right he)))))))))))))))))))))))))))))))))))))
  clear he
  refine ⟨?_⟩
  simp only [putsFrom, Act.put, List.setIfInBounds_toArray, List.set_cons_zero, List.set_cons_succ, Nat.reduceAdd, d0, d1, d2, d3, d4, d5, d6, d7, d8, d9, d10, d11, d12, d13, d14, d15, d16, d17, d18, d19, d20, d21, d22, d23, d24, d25, d26, d27, d28, d29, d30, d31, d32, d33, d34, d35, d36, d37]
  clear d0 d1 d2 d3 d4 d5 d6 d7 d8 d9 d10 d11 d12 d13 d14 d15 d16 d17 d18 d19 d20 d21 d22 d23 d24 d25 d26 d27 d28 d29 d30 d31 d32 d33 d34 d35 d36 d37
  exact hE _ hg

set_option maxRecDepth 20000 in
set_option maxHeartbeats 4000000 in
theorem dir13_yes {W : World} {Q : Exit → Act → World → Prop} {s0 s1 s2 s3 s5 s8 s11 s12 s13 s14 s15 s16 s17 s18 s19 s20 s21 s22 s23 s24 s25 s26 s27 s28 s29 s30 s31 s32 s33 s34 s35 s36 s37 s38 s39 s40 s41 s42 s43 s44 s45 s46 s47 s48 s49 s50 s51 s52 s53 s54 s55 s56 s57 s58 s59 s60 s61 s62 s63 s64 s65 s66 s67 s68 s69 s70 s71 s72 s73 s74 s75 s76 s77 s78 s79 s80 s81 s82 s83 s84 s85 s86 s87 s88 s89 s90 s91 s92 s93 s94 s95 s96 s97 s98 s99 s100 s101 s102 s103 s104 s105 s106 s107 s108 s109 s110 s111 s112 s113 : Value} (bs b2 off2 k n ct tb tf c4 : Nat) (hb2 : b2 < W.heap.size) (X0 : W.cell? ⟨b2, off2 + k, none⟩ = some (.slice (some ⟨tb, tf, none⟩) 1 c4)) (htb : tb < W.heap.size) (Y0 : W.cell? ⟨tb, tf, none⟩ = some (.int .i64 5)) (i1 : (k : Int) < (n : Int)) (pb po mp m1 cP c5 c2 : Nat) (A5 A2 : Option Addr) (q : ValM) (hb1 : bs < W.heap.size) (hb3 : pb < W.heap.size) (Z1 : W.cell? ⟨bs, 1, none⟩ = some (.slice (some ⟨pb, po, none⟩) mp cP)) (j5 : (m1 : Int) < (mp : Int)) (h1 : okI q.k) (h2 : okI q.n) (h3 : q.s.size ≤ 140737488351232) (h4 : q.l = []) (Y3 : W.cell? ⟨tb, tf + 3, none⟩ = some (.int .i64 q.k)) (Y4 : W.cell? ⟨tb, tf + 4, none⟩ = some (.int .i64 q.n)) (Y5 : W.cell? ⟨tb, tf + 5, none⟩ = some (.string q.s)) (Y6 : W.cell? ⟨tb, tf + 6, none⟩ = some (.slice A5 0 c5)) (P1 : W.cell? ⟨pb, po + m1 * 7 + 1, none⟩ = some (.int .i64 q.k)) (P2 : W.cell? ⟨pb, po + m1 * 7 + 2, none⟩ = some (.int .i64 q.n)) (P3 : W.cell? ⟨pb, po + m1 * 7 + 3, none⟩ = some (.string q.s)) (P4 : W.cell? ⟨pb, po + m1 * 7 + 4, none⟩ = some (.slice A2 0 c2))
    (hE : ∀ u, Kp W u → Q .normal { tmps := #[s0, s1, s2, s3, .slice (some ⟨b2, off2, none⟩) n ct, s5, .int .i64 (k : Int), .pointer (some ⟨bs, 0, none⟩), s8, .int .i64 (m1 : Int), .bool true, s11, s12, s13, s14, s15, s16, s17, s18, s19, s20, s21, s22, s23, s24, s25, s26, s27, s28, s29, s30, s31, s32, s33, s34, s35, s36, s37, s38, s39, s40, s41, s42, s43, s44, s45, s46, s47, s48, s49, s50, s51, s52, s53, s54, s55, s56, s57, s58, s59, s60, s61, s62, s63, s64, s65, s66, s67, s68, s69, s70, s71, s72, s73, s74, s75, .slice (some ⟨b2, off2, none⟩) n ct, .int .i64 (k : Int), .pointer (some ⟨b2, off2 + k, none⟩), .slice (some ⟨tb, tf, none⟩) 1 c4, .int .i64 1, .bool false, .bool false, .slice (some ⟨b2, off2, none⟩) n ct, .int .i64 (k : Int), .pointer (some ⟨b2, off2 + k, none⟩), .slice (some ⟨tb, tf, none⟩) 1 c4, .pointer (some ⟨tb, tf, none⟩), .pointer (some ⟨tb, tf, none⟩), .int .i64 5, .bool true, .bool true, .bool false, .bool false, .bool false, .bool true, .bool true, .slice (some ⟨b2, off2, none⟩) n ct, .int .i64 (k : Int), .pointer (some ⟨b2, off2 + k, none⟩), .slice (some ⟨tb, tf, none⟩) 1 c4, .pointer (some ⟨tb, tf, none⟩), .pointer (some ⟨tb, tf + 3, none⟩), .agg #[.int .i64 q.k, .int .i64 q.n, .string q.s, .slice A5 0 c5], .pointer (some ⟨bs, 1, none⟩), .slice (some ⟨pb, po, none⟩) mp cP, .int .i64 (m1 : Int), .pointer (some ⟨pb, po + m1 * 7, none⟩), .pointer (some ⟨pb, po + m1 * 7 + 1, none⟩), .agg #[.int .i64 q.k, .int .i64 q.n, .string q.s, .slice A2 0 c2], .bool true, .bool false, .bool false, .bool false], defers := [] } u) :
    (Code.region 13 (regArr Try.f10 13) true).wp Try.prog Q { tmps := #[s0, s1, s2, s3, .slice (some ⟨b2, off2, none⟩) n ct, s5, .int .i64 (k : Int), .pointer (some ⟨bs, 0, none⟩), s8, .int .i64 (m1 : Int), .bool true, s11, s12, s13, s14, s15, s16, s17, s18, s19, s20, s21, s22, s23, s24, s25, s26, s27, s28, s29, s30, s31, s32, s33, s34, s35, s36, s37, s38, s39, s40, s41, s42, s43, s44, s45, s46, s47, s48, s49, s50, s51, s52, s53, s54, s55, s56, s57, s58, s59, s60, s61, s62, s63, s64, s65, s66, s67, s68, s69, s70, s71, s72, s73, s74, s75, s76, s77, s78, s79, s80, s81, s82, s83, s84, s85, s86, s87, s88, s89, s90, s91, s92, s93, s94, s95, s96, s97, s98, s99, s100, s101, s102, s103, s104, s105, s106, s107, s108, s109, s110, s111, s112, s113], defers := [] } W := by
  simp only [regArr, Try.f10, Option.map_some, Option.getD_some, regOf, if_true, if_false, List.append_nil, List.nil_append, List.toList_toArray, Nat.reduceEqDiff, reduceIte]
  refine wp_region_kp [[], [], [0, 1], [2], [3], [4], [5], [6], [6], [6, 7, 8], [6, 9], [6, 10], [6, 11], [6, 12], [6, 13], [6], [6, 14, 15], [6, 16], [17], [18], [18, 19], [20], [20], [20, 21, 22], [20, 23], [20, 24], [20, 25], [20, 26], [20], [20, 28], [20], [20, 29, 30], [20, 31], [20, 32], [20, 27, 33], [20, 34], [18, 20, 35], [18, 36]] (fun u => Kp W u)
    [fun (y : Value) (u : World) => y = (.slice (some ⟨b2, off2, none⟩) n ct : Value),
     fun (y : Value) (u : World) => y = (.int .i64 (k : Int) : Value),
     fun (y : Value) (u : World) => y = (.pointer (some ⟨b2, off2 + k, none⟩) : Value),
     fun (y : Value) (u : World) => y = (.slice (some ⟨tb, tf, none⟩) 1 c4 : Value),
     fun (y : Value) (u : World) => y = (.int .i64 1 : Value),
     fun (y : Value) (u : World) => y = (.bool false : Value),
     fun (y : Value) (u : World) => y = (.bool false : Value),
     fun (y : Value) (u : World) => y = (.slice (some ⟨b2, off2, none⟩) n ct : Value),
     fun (y : Value) (u : World) => y = (.int .i64 (k : Int) : Value),
     fun (y : Value) (u : World) => y = (.pointer (some ⟨b2, off2 + k, none⟩) : Value),
     fun (y : Value) (u : World) => y = (.slice (some ⟨tb, tf, none⟩) 1 c4 : Value),
     fun (y : Value) (u : World) => y = (.pointer (some ⟨tb, tf, none⟩) : Value),
     fun (y : Value) (u : World) => y = (.pointer (some ⟨tb, tf, none⟩) : Value),
     fun (y : Value) (u : World) => y = (.int .i64 5 : Value),
     fun (y : Value) (u : World) => y = (.bool true : Value),
     fun (y : Value) (u : World) => y = (.bool true : Value),
     fun (y : Value) (u : World) => y = (.bool false : Value),
     fun (y : Value) (u : World) => y = (.bool false : Value),
     fun (y : Value) (u : World) => y = (.bool false : Value),
     fun (y : Value) (u : World) => y = (.bool true : Value),
     fun (y : Value) (u : World) => y = (.bool true : Value),
     fun (y : Value) (u : World) => y = (.slice (some ⟨b2, off2, none⟩) n ct : Value),
     fun (y : Value) (u : World) => y = (.int .i64 (k : Int) : Value),
     fun (y : Value) (u : World) => y = (.pointer (some ⟨b2, off2 + k, none⟩) : Value),
     fun (y : Value) (u : World) => y = (.slice (some ⟨tb, tf, none⟩) 1 c4 : Value),
     fun (y : Value) (u : World) => y = (.pointer (some ⟨tb, tf, none⟩) : Value),
     fun (y : Value) (u : World) => y = (.pointer (some ⟨tb, tf + 3, none⟩) : Value),
     fun (y : Value) (u : World) => y = (.agg #[.int .i64 q.k, .int .i64 q.n, .string q.s, .slice A5 0 c5] : Value),
     fun (y : Value) (u : World) => y = (.pointer (some ⟨bs, 1, none⟩) : Value),
     fun (y : Value) (u : World) => y = (.slice (some ⟨pb, po, none⟩) mp cP : Value),
     fun (y : Value) (u : World) => y = (.int .i64 (m1 : Int) : Value),
     fun (y : Value) (u : World) => y = (.pointer (some ⟨pb, po + m1 * 7, none⟩) : Value),
     fun (y : Value) (u : World) => y = (.pointer (some ⟨pb, po + m1 * 7 + 1, none⟩) : Value),
     fun (y : Value) (u : World) => y = (.agg #[.int .i64 q.k, .int .i64 q.n, .string q.s, .slice A2 0 c2] : Value),
     fun (y : Value) (u : World) => y = (.bool true : Value),
     fun (y : Value) (u : World) => y = (.bool false : Value),
     fun (y : Value) (u : World) => y = (.bool false : Value),
     fun (y : Value) (u : World) => y = (.bool false : Value)]
    (by kernel_rfl) (by kernel_rfl) (by kernel_rfl) (by kernel_rfl) ((Kp.refl _).drew) (fun _ _ hk h => h.trans hk) ⟨fun _ _ _ _ h => h, fun _ _ _ _ h => h, fun _ _ _ _ h => h, fun _ _ _ _ h => h, fun _ _ _ _ h => h, fun _ _ _ _ h => h, fun _ _ _ _ h => h, fun _ _ _ _ h => h, fun _ _ _ _ h => h, fun _ _ _ _ h => h, fun _ _ _ _ h => h, fun _ _ _ _ h => h, fun _ _ _ _ h => h, fun _ _ _ _ h => h, fun _ _ _ _ h => h, fun _ _ _ _ h => h, fun _ _ _ _ h => h, fun _ _ _ _ h => h, fun _ _ _ _ h => h, fun _ _ _ _ h => h, fun _ _ _ _ h => h, fun _ _ _ _ h => h, fun _ _ _ _ h => h, fun _ _ _ _ h => h, fun _ _ _ _ h => h, fun _ _ _ _ h => h, fun _ _ _ _ h => h, fun _ _ _ _ h => h, fun _ _ _ _ h => h, fun _ _ _ _ h => h, fun _ _ _ _ h => h, fun _ _ _ _ h => h, fun _ _ _ _ h => h, fun _ _ _ _ h => h, fun _ _ _ _ h => h, fun _ _ _ _ h => h, fun _ _ _ _ h => h, fun _ _ _ _ h => h, trivial⟩ ⟨?sg0, ?sg1, ?sg2, ?sg3, ?sg4, ?sg5, ?sg6, ?sg7, ?sg8, ?sg9, ?sg10, ?sg11, ?sg12, ?sg13, ?sg14, ?sg15, ?sg16, ?sg17, ?sg18, ?sg19, ?sg20, ?sg21, ?sg22, ?sg23, ?sg24, ?sg25, ?sg26, ?sg27, ?sg28, ?sg29, ?sg30, ?sg31, ?sg32, ?sg33, ?sg34, ?sg35, ?sg36, ?sg37, trivial⟩ ?hEg
  case sg0 =>
    refine OpStepK.by_ ?_
    intro a x u ht hs hg hd K hK
    clear hd
    refine OpGoal.live (wanted_free (by kernel_rfl)) ?_
    have e4 : a.eval (Operand.tmp 4) = (.slice (some ⟨b2, off2, none⟩) n ct : Value) := (ht 4).trans (by kernel_rfl)
    clear ht hs
    refine BigFrame.wp_move _ rfl ?_
    exact hK.out _ _ (Kp.refl _) e4
  case sg1 =>
    refine OpStepK.by_ ?_
    intro a x u ht hs hg hd K hK
    clear hd
    refine OpGoal.live (wanted_free (by kernel_rfl)) ?_
    have e6 : a.eval (Operand.tmp 6) = (.int .i64 (k : Int) : Value) := (ht 6).trans (by kernel_rfl)
    clear ht hs
    refine BigFrame.wp_move _ rfl ?_
    exact hK.out _ _ (Kp.refl _) e6
  case sg2 =>
    refine OpStepK.by_ ?_
    intro a x u ht hs hg hd K hK
    have d0 : (x 0) = .slice (some ⟨b2, off2, none⟩) n ct := And.left hd
    have d1 : (x 1) = .int .i64 (k : Int) := And.left (And.right hd)
    clear hd
    refine OpGoal.live (wanted_free (by kernel_rfl)) ?_
    have e76 : a.tmps[76]? = some (.slice (some ⟨b2, off2, none⟩) n ct : Value) := (hs 76).trans (Eq.trans (b := some (x 0)) (by kernel_rfl) (by rw [d0]))
    have e77 : a.tmps[77]? = some (.int .i64 (k : Int) : Value) := (hs 77).trans (Eq.trans (b := some (x 1)) (by kernel_rfl) (by rw [d1]))
    clear d0 d1
    clear ht hs
    go_simp
    exact hK.out _ _ (Kp.refl _) rfl
  case sg3 =>
    refine OpStepK.by_ ?_
    intro a x u ht hs hg hd K hK
    have d2 : (x 2) = .pointer (some ⟨b2, off2 + k, none⟩) := And.left hd
    clear hd
    refine OpGoal.live (wanted_free (by kernel_rfl)) ?_
    have e78 : a.tmps[78]? = some (.pointer (some ⟨b2, off2 + k, none⟩) : Value) := (hs 78).trans (Eq.trans (b := some (x 2)) (by kernel_rfl) (by rw [d2]))
    clear d2
    clear ht hs
    have q0 := cell_kp hg hb2 X0
    go_simp
    exact hK.out _ _ (Kp.refl _) rfl
  case sg4 =>
    refine OpStepK.by_ ?_
    intro a x u ht hs hg hd K hK
    have d3 : (x 3) = .slice (some ⟨tb, tf, none⟩) 1 c4 := And.left hd
    clear hd
    refine OpGoal.live (wanted_free (by kernel_rfl)) ?_
    have e79 : a.tmps[79]? = some (.slice (some ⟨tb, tf, none⟩) 1 c4 : Value) := (hs 79).trans (Eq.trans (b := some (x 3)) (by kernel_rfl) (by rw [d3]))
    clear d3
    clear ht hs
    go_simp
    exact hK.out _ _ (Kp.refl _) rfl
  case sg5 =>
    refine OpStepK.by_ ?_
    intro a x u ht hs hg hd K hK
    have d4 : (x 4) = .int .i64 1 := And.left hd
    clear hd
    refine OpGoal.live (wanted_free (by kernel_rfl)) ?_
    have e80 : a.tmps[80]? = some (.int .i64 1 : Value) := (hs 80).trans (Eq.trans (b := some (x 4)) (by kernel_rfl) (by rw [d4]))
    clear d4
    clear ht hs
    go_simp
    exact hK.out _ _ (Kp.refl _) rfl
  case sg6 =>
    refine OpStepK.by_ ?_
    intro a x u ht hs hg hd K hK
    have d5 : (x 5) = .bool false := And.left hd
    clear hd
    refine OpGoal.live (wanted_free (by kernel_rfl)) ?_
    have e81 : a.eval (Operand.tmp 81) = (.bool false : Value) := (ht 81).trans (Eq.trans (b := x 5) (by kernel_rfl) d5)
    clear d5
    clear ht hs
    refine BigFrame.wp_move _ rfl ?_
    exact hK.out _ _ (Kp.refl _) e81
  case sg7 =>
    refine OpStepK.by_ ?_
    intro a x u ht hs hg hd K hK
    have d6 : (x 6) = .bool false := And.left hd
    clear hd
    refine OpGoal.live (wanted_yes (j := 6) (d := 82) (by kernel_rfl) (by kernel_rfl) ((hs 82).trans (Eq.trans (b := some (x 6)) (by kernel_rfl) (by rw [d6])))) ?_
    have e4 : a.eval (Operand.tmp 4) = (.slice (some ⟨b2, off2, none⟩) n ct : Value) := (ht 4).trans (by kernel_rfl)
    clear d6
    clear ht hs
    refine BigFrame.wp_move _ rfl ?_
    exact hK.out _ _ (Kp.refl _) e4
  case sg8 =>
    refine OpStepK.by_ ?_
    intro a x u ht hs hg hd K hK
    have d6 : (x 6) = .bool false := And.left hd
    clear hd
    refine OpGoal.live (wanted_yes (j := 6) (d := 82) (by kernel_rfl) (by kernel_rfl) ((hs 82).trans (Eq.trans (b := some (x 6)) (by kernel_rfl) (by rw [d6])))) ?_
    have e6 : a.eval (Operand.tmp 6) = (.int .i64 (k : Int) : Value) := (ht 6).trans (by kernel_rfl)
    clear d6
    clear ht hs
    refine BigFrame.wp_move _ rfl ?_
    exact hK.out _ _ (Kp.refl _) e6
  case sg9 =>
    refine OpStepK.by_ ?_
    intro a x u ht hs hg hd K hK
    have d6 : (x 6) = .bool false := And.left hd
    have d7 : (x 7) = .slice (some ⟨b2, off2, none⟩) n ct := And.left (And.right hd)
    have d8 : (x 8) = .int .i64 (k : Int) := And.left (And.right (And.right hd))
    clear hd
    refine OpGoal.live (wanted_yes (j := 6) (d := 82) (by kernel_rfl) (by kernel_rfl) ((hs 82).trans (Eq.trans (b := some (x 6)) (by kernel_rfl) (by rw [d6])))) ?_
    have e83 : a.tmps[83]? = some (.slice (some ⟨b2, off2, none⟩) n ct : Value) := (hs 83).trans (Eq.trans (b := some (x 7)) (by kernel_rfl) (by rw [d7]))
    have e84 : a.tmps[84]? = some (.int .i64 (k : Int) : Value) := (hs 84).trans (Eq.trans (b := some (x 8)) (by kernel_rfl) (by rw [d8]))
    clear d6 d7 d8
    clear ht hs
    go_simp
    exact hK.out _ _ (Kp.refl _) rfl
  case sg10 =>
    refine OpStepK.by_ ?_
    intro a x u ht hs hg hd K hK
    have d6 : (x 6) = .bool false := And.left hd
    have d9 : (x 9) = .pointer (some ⟨b2, off2 + k, none⟩) := And.left (And.right hd)
    clear hd
    refine OpGoal.live (wanted_yes (j := 6) (d := 82) (by kernel_rfl) (by kernel_rfl) ((hs 82).trans (Eq.trans (b := some (x 6)) (by kernel_rfl) (by rw [d6])))) ?_
    have e85 : a.tmps[85]? = some (.pointer (some ⟨b2, off2 + k, none⟩) : Value) := (hs 85).trans (Eq.trans (b := some (x 9)) (by kernel_rfl) (by rw [d9]))
    clear d6 d9
    clear ht hs
    have q0 := cell_kp hg hb2 X0
    go_simp
    exact hK.out _ _ (Kp.refl _) rfl
  case sg11 =>
    refine OpStepK.by_ ?_
    intro a x u ht hs hg hd K hK
    have d6 : (x 6) = .bool false := And.left hd
    have d10 : (x 10) = .slice (some ⟨tb, tf, none⟩) 1 c4 := And.left (And.right hd)
    clear hd
    refine OpGoal.live (wanted_yes (j := 6) (d := 82) (by kernel_rfl) (by kernel_rfl) ((hs 82).trans (Eq.trans (b := some (x 6)) (by kernel_rfl) (by rw [d6])))) ?_
    have e86 : a.tmps[86]? = some (.slice (some ⟨tb, tf, none⟩) 1 c4 : Value) := (hs 86).trans (Eq.trans (b := some (x 10)) (by kernel_rfl) (by rw [d10]))
    clear d6 d10
    clear ht hs
    go_simp
    exact hK.out _ _ (Kp.refl _) rfl
  case sg12 =>
    refine OpStepK.by_ ?_
    intro a x u ht hs hg hd K hK
    have d6 : (x 6) = .bool false := And.left hd
    have d11 : (x 11) = .pointer (some ⟨tb, tf, none⟩) := And.left (And.right hd)
    clear hd
    refine OpGoal.live (wanted_yes (j := 6) (d := 82) (by kernel_rfl) (by kernel_rfl) ((hs 82).trans (Eq.trans (b := some (x 6)) (by kernel_rfl) (by rw [d6])))) ?_
    have e87 : a.tmps[87]? = some (.pointer (some ⟨tb, tf, none⟩) : Value) := (hs 87).trans (Eq.trans (b := some (x 11)) (by kernel_rfl) (by rw [d11]))
    clear d6 d11
    clear ht hs
    go_simp
    exact hK.out _ _ (Kp.refl _) rfl
  case sg13 =>
    refine OpStepK.by_ ?_
    intro a x u ht hs hg hd K hK
    have d6 : (x 6) = .bool false := And.left hd
    have d12 : (x 12) = .pointer (some ⟨tb, tf, none⟩) := And.left (And.right hd)
    clear hd
    refine OpGoal.live (wanted_yes (j := 6) (d := 82) (by kernel_rfl) (by kernel_rfl) ((hs 82).trans (Eq.trans (b := some (x 6)) (by kernel_rfl) (by rw [d6])))) ?_
    have e88 : a.tmps[88]? = some (.pointer (some ⟨tb, tf, none⟩) : Value) := (hs 88).trans (Eq.trans (b := some (x 12)) (by kernel_rfl) (by rw [d12]))
    clear d6 d12
    clear ht hs
    have q0 := cell_kp hg htb Y0
    go_simp
    exact hK.out _ _ (Kp.refl _) rfl
  case sg14 =>
    refine OpStepK.by_ ?_
    intro a x u ht hs hg hd K hK
    have d6 : (x 6) = .bool false := And.left hd
    have d13 : (x 13) = .int .i64 5 := And.left (And.right hd)
    clear hd
    refine OpGoal.live (wanted_yes (j := 6) (d := 82) (by kernel_rfl) (by kernel_rfl) ((hs 82).trans (Eq.trans (b := some (x 6)) (by kernel_rfl) (by rw [d6])))) ?_
    have e89 : a.tmps[89]? = some (.int .i64 5 : Value) := (hs 89).trans (Eq.trans (b := some (x 13)) (by kernel_rfl) (by rw [d13]))
    clear d6 d13
    clear ht hs
    go_simp
    exact hK.out _ _ (Kp.refl _) rfl
  case sg15 =>
    refine OpStepK.by_ ?_
    intro a x u ht hs hg hd K hK
    have d6 : (x 6) = .bool false := And.left hd
    clear hd
    refine OpGoal.live (wanted_yes (j := 6) (d := 82) (by kernel_rfl) (by kernel_rfl) ((hs 82).trans (Eq.trans (b := some (x 6)) (by kernel_rfl) (by rw [d6])))) ?_
    have e10 : a.eval (Operand.tmp 10) = (.bool true : Value) := (ht 10).trans (by kernel_rfl)
    clear d6
    clear ht hs
    refine BigFrame.wp_move _ rfl ?_
    exact hK.out _ _ (Kp.refl _) e10
  case sg16 =>
    refine OpStepK.by_ ?_
    intro a x u ht hs hg hd K hK
    have d6 : (x 6) = .bool false := And.left hd
    have d14 : (x 14) = .bool true := And.left (And.right hd)
    have d15 : (x 15) = .bool true := And.left (And.right (And.right hd))
    clear hd
    refine OpGoal.live (wanted_yes (j := 6) (d := 82) (by kernel_rfl) (by kernel_rfl) ((hs 82).trans (Eq.trans (b := some (x 6)) (by kernel_rfl) (by rw [d6])))) ?_
    have e90 : a.tmps[90]? = some (.bool true : Value) := (hs 90).trans (Eq.trans (b := some (x 14)) (by kernel_rfl) (by rw [d14]))
    have e91 : a.tmps[91]? = some (.bool true : Value) := (hs 91).trans (Eq.trans (b := some (x 15)) (by kernel_rfl) (by rw [d15]))
    clear d6 d14 d15
    clear ht hs
    go_simp
    exact hK.out _ _ (Kp.refl _) rfl
  case sg17 =>
    refine OpStepK.by_ ?_
    intro a x u ht hs hg hd K hK
    have d6 : (x 6) = .bool false := And.left hd
    have d16 : (x 16) = .bool false := And.left (And.right hd)
    clear hd
    refine OpGoal.live (wanted_free (by kernel_rfl)) ?_
    have e82 : a.tmps[82]? = some (.bool false : Value) := (hs 82).trans (Eq.trans (b := some (x 6)) (by kernel_rfl) (by rw [d6]))
    have e92 : a.tmps[92]? = some (.bool false : Value) := (hs 92).trans (Eq.trans (b := some (x 16)) (by kernel_rfl) (by rw [d16]))
    clear d6 d16
    clear ht hs
    go_simp
    exact hK.out _ _ (Kp.refl _) rfl
  case sg18 =>
    refine OpStepK.by_ ?_
    intro a x u ht hs hg hd K hK
    have d17 : (x 17) = .bool false := And.left hd
    clear hd
    refine OpGoal.live (wanted_free (by kernel_rfl)) ?_
    have e93 : a.eval (Operand.tmp 93) = (.bool false : Value) := (ht 93).trans (Eq.trans (b := x 17) (by kernel_rfl) d17)
    clear d17
    clear ht hs
    refine BigFrame.wp_move _ rfl ?_
    exact hK.out _ _ (Kp.refl _) e93
  case sg19 =>
    refine OpStepK.by_ ?_
    intro a x u ht hs hg hd K hK
    have d18 : (x 18) = .bool false := And.left hd
    clear hd
    refine OpGoal.live (wanted_yes (j := 18) (d := 94) (by kernel_rfl) (by kernel_rfl) ((hs 94).trans (Eq.trans (b := some (x 18)) (by kernel_rfl) (by rw [d18])))) ?_
    have e10 : a.eval (Operand.tmp 10) = (.bool true : Value) := (ht 10).trans (by kernel_rfl)
    clear d18
    clear ht hs
    refine BigFrame.wp_move _ rfl ?_
    exact hK.out _ _ (Kp.refl _) e10
  case sg20 =>
    refine OpStepK.by_ ?_
    intro a x u ht hs hg hd K hK
    have d18 : (x 18) = .bool false := And.left hd
    have d19 : (x 19) = .bool true := And.left (And.right hd)
    clear hd
    refine OpGoal.live (wanted_yes (j := 18) (d := 94) (by kernel_rfl) (by kernel_rfl) ((hs 94).trans (Eq.trans (b := some (x 18)) (by kernel_rfl) (by rw [d18])))) ?_
    have e95 : a.eval (Operand.tmp 95) = (.bool true : Value) := (ht 95).trans (Eq.trans (b := x 19) (by kernel_rfl) d19)
    clear d18 d19
    clear ht hs
    refine BigFrame.wp_move _ rfl ?_
    exact hK.out _ _ (Kp.refl _) e95
  case sg21 =>
    refine OpStepK.by_ ?_
    intro a x u ht hs hg hd K hK
    have d20 : (x 20) = .bool true := And.left hd
    clear hd
    refine OpGoal.live (wanted_yes (j := 20) (d := 96) (by kernel_rfl) (by kernel_rfl) ((hs 96).trans (Eq.trans (b := some (x 20)) (by kernel_rfl) (by rw [d20])))) ?_
    have e4 : a.eval (Operand.tmp 4) = (.slice (some ⟨b2, off2, none⟩) n ct : Value) := (ht 4).trans (by kernel_rfl)
    clear d20
    clear ht hs
    refine BigFrame.wp_move _ rfl ?_
    exact hK.out _ _ (Kp.refl _) e4
  case sg22 =>
    refine OpStepK.by_ ?_
    intro a x u ht hs hg hd K hK
    have d20 : (x 20) = .bool true := And.left hd
    clear hd
    refine OpGoal.live (wanted_yes (j := 20) (d := 96) (by kernel_rfl) (by kernel_rfl) ((hs 96).trans (Eq.trans (b := some (x 20)) (by kernel_rfl) (by rw [d20])))) ?_
    have e6 : a.eval (Operand.tmp 6) = (.int .i64 (k : Int) : Value) := (ht 6).trans (by kernel_rfl)
    clear d20
    clear ht hs
    refine BigFrame.wp_move _ rfl ?_
    exact hK.out _ _ (Kp.refl _) e6
  case sg23 =>
    refine OpStepK.by_ ?_
    intro a x u ht hs hg hd K hK
    have d20 : (x 20) = .bool true := And.left hd
    have d21 : (x 21) = .slice (some ⟨b2, off2, none⟩) n ct := And.left (And.right hd)
    have d22 : (x 22) = .int .i64 (k : Int) := And.left (And.right (And.right hd))
    clear hd
    refine OpGoal.live (wanted_yes (j := 20) (d := 96) (by kernel_rfl) (by kernel_rfl) ((hs 96).trans (Eq.trans (b := some (x 20)) (by kernel_rfl) (by rw [d20])))) ?_
    have e97 : a.tmps[97]? = some (.slice (some ⟨b2, off2, none⟩) n ct : Value) := (hs 97).trans (Eq.trans (b := some (x 21)) (by kernel_rfl) (by rw [d21]))
    have e98 : a.tmps[98]? = some (.int .i64 (k : Int) : Value) := (hs 98).trans (Eq.trans (b := some (x 22)) (by kernel_rfl) (by rw [d22]))
    clear d20 d21 d22
    clear ht hs
    go_simp
    exact hK.out _ _ (Kp.refl _) rfl
  case sg24 =>
    refine OpStepK.by_ ?_
    intro a x u ht hs hg hd K hK
    have d20 : (x 20) = .bool true := And.left hd
    have d23 : (x 23) = .pointer (some ⟨b2, off2 + k, none⟩) := And.left (And.right hd)
    clear hd
    refine OpGoal.live (wanted_yes (j := 20) (d := 96) (by kernel_rfl) (by kernel_rfl) ((hs 96).trans (Eq.trans (b := some (x 20)) (by kernel_rfl) (by rw [d20])))) ?_
    have e99 : a.tmps[99]? = some (.pointer (some ⟨b2, off2 + k, none⟩) : Value) := (hs 99).trans (Eq.trans (b := some (x 23)) (by kernel_rfl) (by rw [d23]))
    clear d20 d23
    clear ht hs
    have q0 := cell_kp hg hb2 X0
    go_simp
    exact hK.out _ _ (Kp.refl _) rfl
  case sg25 =>
    refine OpStepK.by_ ?_
    intro a x u ht hs hg hd K hK
    have d20 : (x 20) = .bool true := And.left hd
    have d24 : (x 24) = .slice (some ⟨tb, tf, none⟩) 1 c4 := And.left (And.right hd)
    clear hd
    refine OpGoal.live (wanted_yes (j := 20) (d := 96) (by kernel_rfl) (by kernel_rfl) ((hs 96).trans (Eq.trans (b := some (x 20)) (by kernel_rfl) (by rw [d20])))) ?_
    have e100 : a.tmps[100]? = some (.slice (some ⟨tb, tf, none⟩) 1 c4 : Value) := (hs 100).trans (Eq.trans (b := some (x 24)) (by kernel_rfl) (by rw [d24]))
    clear d20 d24
    clear ht hs
    go_simp
    exact hK.out _ _ (Kp.refl _) rfl
  case sg26 =>
    refine OpStepK.by_ ?_
    intro a x u ht hs hg hd K hK
    have d20 : (x 20) = .bool true := And.left hd
    have d25 : (x 25) = .pointer (some ⟨tb, tf, none⟩) := And.left (And.right hd)
    clear hd
    refine OpGoal.live (wanted_yes (j := 20) (d := 96) (by kernel_rfl) (by kernel_rfl) ((hs 96).trans (Eq.trans (b := some (x 20)) (by kernel_rfl) (by rw [d20])))) ?_
    have e101 : a.tmps[101]? = some (.pointer (some ⟨tb, tf, none⟩) : Value) := (hs 101).trans (Eq.trans (b := some (x 25)) (by kernel_rfl) (by rw [d25]))
    clear d20 d25
    clear ht hs
    go_simp
    exact hK.out _ _ (Kp.refl _) rfl
  case sg27 =>
    refine OpStepK.by_ ?_
    intro a x u ht hs hg hd K hK
    have d20 : (x 20) = .bool true := And.left hd
    have d26 : (x 26) = .pointer (some ⟨tb, tf + 3, none⟩) := And.left (And.right hd)
    clear hd
    refine OpGoal.live (wanted_yes (j := 20) (d := 96) (by kernel_rfl) (by kernel_rfl) ((hs 96).trans (Eq.trans (b := some (x 20)) (by kernel_rfl) (by rw [d20])))) ?_
    have e102 : a.tmps[102]? = some (.pointer (some ⟨tb, tf + 3, none⟩) : Value) := (hs 102).trans (Eq.trans (b := some (x 26)) (by kernel_rfl) (by rw [d26]))
    clear d20 d26
    clear ht hs
    have q0 := cell_kp hg htb Y3
    have q1 := cell_kp hg htb Y4
    have q2 := cell_kp hg htb Y5
    have q3 := cell_kp hg htb Y6
    go_simp
    exact hK.out _ _ (Kp.refl _) rfl
  case sg28 =>
    refine OpStepK.by_ ?_
    intro a x u ht hs hg hd K hK
    have d20 : (x 20) = .bool true := And.left hd
    clear hd
    refine OpGoal.live (wanted_yes (j := 20) (d := 96) (by kernel_rfl) (by kernel_rfl) ((hs 96).trans (Eq.trans (b := some (x 20)) (by kernel_rfl) (by rw [d20])))) ?_
    have e7 : a.tmps[7]? = some (.pointer (some ⟨bs, 0, none⟩) : Value) := (hs 7).trans (by kernel_rfl)
    clear d20
    clear ht hs
    go_simp
    exact hK.out _ _ (Kp.refl _) rfl
  case sg29 =>
    refine OpStepK.by_ ?_
    intro a x u ht hs hg hd K hK
    have d20 : (x 20) = .bool true := And.left hd
    have d28 : (x 28) = .pointer (some ⟨bs, 1, none⟩) := And.left (And.right hd)
    clear hd
    refine OpGoal.live (wanted_yes (j := 20) (d := 96) (by kernel_rfl) (by kernel_rfl) ((hs 96).trans (Eq.trans (b := some (x 20)) (by kernel_rfl) (by rw [d20])))) ?_
    have e104 : a.tmps[104]? = some (.pointer (some ⟨bs, 1, none⟩) : Value) := (hs 104).trans (Eq.trans (b := some (x 28)) (by kernel_rfl) (by rw [d28]))
    clear d20 d28
    clear ht hs
    have q0 := cell_kp hg hb1 Z1
    go_simp
    exact hK.out _ _ (Kp.refl _) rfl
  case sg30 =>
    refine OpStepK.by_ ?_
    intro a x u ht hs hg hd K hK
    have d20 : (x 20) = .bool true := And.left hd
    clear hd
    refine OpGoal.live (wanted_yes (j := 20) (d := 96) (by kernel_rfl) (by kernel_rfl) ((hs 96).trans (Eq.trans (b := some (x 20)) (by kernel_rfl) (by rw [d20])))) ?_
    have e9 : a.eval (Operand.tmp 9) = (.int .i64 (m1 : Int) : Value) := (ht 9).trans (by kernel_rfl)
    clear d20
    clear ht hs
    refine BigFrame.wp_move _ rfl ?_
    exact hK.out _ _ (Kp.refl _) e9
  case sg31 =>
    refine OpStepK.by_ ?_
    intro a x u ht hs hg hd K hK
    have d20 : (x 20) = .bool true := And.left hd
    have d29 : (x 29) = .slice (some ⟨pb, po, none⟩) mp cP := And.left (And.right hd)
    have d30 : (x 30) = .int .i64 (m1 : Int) := And.left (And.right (And.right hd))
    clear hd
    refine OpGoal.live (wanted_yes (j := 20) (d := 96) (by kernel_rfl) (by kernel_rfl) ((hs 96).trans (Eq.trans (b := some (x 20)) (by kernel_rfl) (by rw [d20])))) ?_
    have e105 : a.tmps[105]? = some (.slice (some ⟨pb, po, none⟩) mp cP : Value) := (hs 105).trans (Eq.trans (b := some (x 29)) (by kernel_rfl) (by rw [d29]))
    have e106 : a.tmps[106]? = some (.int .i64 (m1 : Int) : Value) := (hs 106).trans (Eq.trans (b := some (x 30)) (by kernel_rfl) (by rw [d30]))
    clear d20 d29 d30
    clear ht hs
    go_simp
    exact hK.out _ _ (Kp.refl _) rfl
  case sg32 =>
    refine OpStepK.by_ ?_
    intro a x u ht hs hg hd K hK
    have d20 : (x 20) = .bool true := And.left hd
    have d31 : (x 31) = .pointer (some ⟨pb, po + m1 * 7, none⟩) := And.left (And.right hd)
    clear hd
    refine OpGoal.live (wanted_yes (j := 20) (d := 96) (by kernel_rfl) (by kernel_rfl) ((hs 96).trans (Eq.trans (b := some (x 20)) (by kernel_rfl) (by rw [d20])))) ?_
    have e107 : a.tmps[107]? = some (.pointer (some ⟨pb, po + m1 * 7, none⟩) : Value) := (hs 107).trans (Eq.trans (b := some (x 31)) (by kernel_rfl) (by rw [d31]))
    clear d20 d31
    clear ht hs
    go_simp
    exact hK.out _ _ (Kp.refl _) rfl
  case sg33 =>
    refine OpStepK.by_ ?_
    intro a x u ht hs hg hd K hK
    have d20 : (x 20) = .bool true := And.left hd
    have d32 : (x 32) = .pointer (some ⟨pb, po + m1 * 7 + 1, none⟩) := And.left (And.right hd)
    clear hd
    refine OpGoal.live (wanted_yes (j := 20) (d := 96) (by kernel_rfl) (by kernel_rfl) ((hs 96).trans (Eq.trans (b := some (x 20)) (by kernel_rfl) (by rw [d20])))) ?_
    have e108 : a.tmps[108]? = some (.pointer (some ⟨pb, po + m1 * 7 + 1, none⟩) : Value) := (hs 108).trans (Eq.trans (b := some (x 32)) (by kernel_rfl) (by rw [d32]))
    clear d20 d32
    clear ht hs
    have q0 := cell_kp hg hb3 P1
    have q1 := cell_kp hg hb3 P2
    have q2 := cell_kp hg hb3 P3
    have q3 := cell_kp hg hb3 P4
    go_simp
    exact hK.out _ _ (Kp.refl _) rfl
  case sg34 =>
    intro x u hg hd K hK
    have d20 : (x 20) = .bool true := And.left hd
    have d27 : (x 27) = .agg #[.int .i64 q.k, .int .i64 q.n, .string q.s, .slice A5 0 c5] := And.left (And.right hd)
    have d33 : (x 33) = .agg #[.int .i64 q.k, .int .i64 q.n, .string q.s, .slice A2 0 c2] := And.left (And.right (And.right hd))
    clear hd
    refine ⟨?_⟩
    simp only [putsFrom, Act.put, List.setIfInBounds_toArray, List.set_cons_zero, List.set_cons_succ, Nat.reduceAdd, d20, d27, d33] at hK ⊢
    go_simp
    go_at_call 20
    have hc := same_two (w := u) (A := A5) (c := c5) (B := A2) (d := c2) h1 h2 h3 h4
    refine hc.mono ?_
    clear hc
    rintro e u' ⟨rfl, hk9⟩
    dsimp only
    exact hK.out _ _ hk9 rfl
  case sg35 =>
    refine OpStepK.by_ ?_
    intro a x u ht hs hg hd K hK
    have d20 : (x 20) = .bool true := And.left hd
    have d34 : (x 34) = .bool true := And.left (And.right hd)
    clear hd
    refine OpGoal.live (wanted_yes (j := 20) (d := 96) (by kernel_rfl) (by kernel_rfl) ((hs 96).trans (Eq.trans (b := some (x 20)) (by kernel_rfl) (by rw [d20])))) ?_
    have e110 : a.tmps[110]? = some (.bool true : Value) := (hs 110).trans (Eq.trans (b := some (x 34)) (by kernel_rfl) (by rw [d34]))
    clear d20 d34
    clear ht hs
    go_simp
    exact hK.out _ _ (Kp.refl _) rfl
  case sg36 =>
    refine OpStepK.by_ ?_
    intro a x u ht hs hg hd K hK
    have d18 : (x 18) = .bool false := And.left hd
    have d20 : (x 20) = .bool true := And.left (And.right hd)
    have d35 : (x 35) = .bool false := And.left (And.right (And.right hd))
    clear hd
    refine OpGoal.live (wanted_yes (j := 18) (d := 94) (by kernel_rfl) (by kernel_rfl) ((hs 94).trans (Eq.trans (b := some (x 18)) (by kernel_rfl) (by rw [d18])))) ?_
    have e96 : a.tmps[96]? = some (.bool true : Value) := (hs 96).trans (Eq.trans (b := some (x 20)) (by kernel_rfl) (by rw [d20]))
    have e111 : a.tmps[111]? = some (.bool false : Value) := (hs 111).trans (Eq.trans (b := some (x 35)) (by kernel_rfl) (by rw [d35]))
    clear d18 d20 d35
    clear ht hs
    go_simp
    exact hK.out _ _ (Kp.refl _) rfl
  case sg37 =>
    refine OpStepK.by_ ?_
    intro a x u ht hs hg hd K hK
    have d18 : (x 18) = .bool false := And.left hd
    have d36 : (x 36) = .bool false := And.left (And.right hd)
    clear hd
    refine OpGoal.live (wanted_free (by kernel_rfl)) ?_
    have e94 : a.tmps[94]? = some (.bool false : Value) := (hs 94).trans (Eq.trans (b := some (x 18)) (by kernel_rfl) (by rw [d18]))
    have e112 : a.tmps[112]? = some (.bool false : Value) := (hs 112).trans (Eq.trans (b := some (x 36)) (by kernel_rfl) (by rw [d36]))
    clear d18 d36
    clear ht hs
    go_simp
    exact hK.out _ _ (Kp.refl _) rfl
  intro x u hg he
  have d0 : (x 0) = .slice (some ⟨b2, off2, none⟩) n ct := And.left he
  have d1 : (x 1) = .int .i64 (k : Int) := And.left (And.right he)
  have d2 : (x 2) = .pointer (some ⟨b2, off2 + k, none⟩) := And.left (And.right (And.right he))
  have d3 : (x 3) = .slice (some ⟨tb, tf, none⟩) 1 c4 := And.left (And.right (And.right (And.right he)))
  have d4 : (x 4) = .int .i64 1 := And.left (And.right (And.right (And.right (And.right he))))
  have d5 : (x 5) = .bool false := And.left (And.right (And.right (And.right (And.right (And.right he)))))
  have d6 : (x 6) = .bool false := And.left (And.right (And.right (And.right (And.right (And.right (And.right he))))))
  have d7 : (x 7) = .slice (some ⟨b2, off2, none⟩) n ct := And.left (And.right (And.right (And.right (And.right (And.right (And.right (And.right he)))))))
  have d8 : (x 8) = .int .i64 (k : Int) := And.left (And.right (And.right (And.right (And.right (And.right (And.right (And.right (And.right he))))))))
  have d9 : (x 9) = .pointer (some ⟨b2, off2 + k, none⟩) := And.left (And.right (And.right (And.right (And.right (And.right (And.right (And.right (And.right (And.right he)))))))))
  have d10 : (x 10) = .slice (some ⟨tb, tf, none⟩) 1 c4 := And.left (And.right (And.right (And.right (And.right (And.right (And.right (And.right (And.right (And.right (And.right he))))))))))
  have d11 : (x 11) = .pointer (some ⟨tb, tf, none⟩) := And.left (And.right (And.right (And.right (And.right (And.right (And.right (And.right (And.right (And.right (And.right (And.right he)))))))))))
  have d12 : (x 12) = .pointer (some ⟨tb, tf, none⟩) := And.left (And.right (And.right (And.right (And.right (And.right (And.right (And.right (And.right (And.right (And.right (And.right (And.right he))))))))))))
  have d13 : (x 13) = .int .i64 5 := And.left (And.right (And.right (And.right (And.right (And.right (And.right (And.right (And.right (And.right (And.right (And.right (And.right (And.right he)))))))))))))
  have d14 : (x 14) = .bool true := And.left (And.right (And.right (And.right (And.right (And.right (And.right (And.right (And.right (And.right (And.right (And.right (And.right (And.right (And.right he))))))))))))))
  have d15 : (x 15) = .bool true := And.left (And.right (And.right (And.right (And.right (And.right (And.right (And.right (And.right (And.right (And.right (And.right (And.right (And.right (And.right (And.right he)))))))))))))))
  have d16 : (x 16) = .bool false := And.left (And.right (And.right (And.right (And.right (And.right (And.right (And.right (And.right (And.right (And.right (And.right (And.right (And.right (And.right (And.right (And.right he))))))))))))))))
  have d17 : (x 17) = .bool false := And.left (And.right (And.right (And.right (And.right (And.right (And.right (And.right (And.right (And.right (And.right (And.right (And.right (And.right (And.right (And.right (And.right (And.right he)))))))))))))))))
  have d18 : (x 18) = .bool false := And.left (And.right (And.right (And.right (And.right (And.right (And.right (And.right (And.right (And.right (And.right (And.right (And.right (And.right (And.right (And.right (And.right (And.right (And.right he))))))))))))))))))
  have d19 : (x 19) = .bool true := And.left (And.right (And.right (And.right (And.right (And.right (And.right (And.right (And.right (And.right (And.right (And.right (And.right (And.right (And.right (And.right (And.right (And.right (And.right (And.right he)))))))))))))))))))
  have d20 : (x 20) = .bool true := And.left (And.right (And.right (And.right (And.right (And.right (And.right (And.right (And.right (And.right (And.right (And.right (And.right (And.right (And.right (And.right (And.right (And.right (And.right (And.right (And.right he))))))))))))))))))))
  have d21 : (x 21) = .slice (some ⟨b2, off2, none⟩) n ct := And.left (And.right (And.right (And.right (And.right (And.right (And.right (And.right (And.right (And.right (And.right (And.right (And.right (And.right (And.right (And.right (And.right (And.right (And.right (And.right (And.right (And.right he)))))))))))))))))))))
  have d22 : (x 22) = .int .i64 (k : Int) := And.left (And.right (And.right (And.right (And.right (And.right (And.right (And.right (And.right (And.right (And.right (And.right (And.right (And.right (And.right (And.right (And.right (And.right (And.right (And.right (And.right (And.right (And.right he))))))))))))))))))))))
  have d23 : (x 23) = .pointer (some ⟨b2, off2 + k, none⟩) := And.left (And.right (And.right (And.right (And.right (And.right (And.right (And.right (And.right (And.right (And.right (And.right (And.right (And.right (And.right (And.right (And.right (And.right (And.right (And.right (And.right (And.right (And.right (And.right he)))))))))))))))))))))))
  have d24 : (x 24) = .slice (some ⟨tb, tf, none⟩) 1 c4 := And.left (And.right (And.right (And.right (And.right (And.right (And.right (And.right (And.right (And.right (And.right (And.right (And.right (And.right (And.right (And.right (And.right (And.right (And.right (And.right (And.right (And.right (And.right (And.right (And.right he))))))))))))))))))))))))
  have d25 : (x 25) = .pointer (some ⟨tb, tf, none⟩) := And.left (And.right (And.right (And.right (And.right (And.right (And.right (And.right (And.right (And.right (And.right (And.right (And.right (And.right (And.right (And.right (And.right (And.right (And.right (And.right (And.right (And.right (And.right (And.right (And.right (And.right he)))))))))))))))))))))))))
  have d26 : (x 26) = .pointer (some ⟨tb, tf + 3, none⟩) := And.left (And.right (And.right (And.right (And.right (And.right (And.right (And.right (And.right (And.right (And.right (And.right (And.right (And.right (And.right (And.right (And.right (And.right (And.right (And.right (And.right (And.right (And.right (And.right (And.right (And.right (And.right he))))))))))))))))))))))))))
  have d27 : (x 27) = .agg #[.int .i64 q.k, .int .i64 q.n, .string q.s, .slice A5 0 c5] := And.left (And.right (And.right (And.right (And.right (And.right (And.right (And.right (And.right (And.right (And.right (And.right (And.right (And.right (And.right (And.right (And.right (And.right (And.right (And.right (And.right (And.right (And.right (And.right (And.right (And.right (And.right (And.right he)))))))))))))))))))))))))))
  have d28 : (x 28) = .pointer (some ⟨bs, 1, none⟩) := And.left (And.right (And.right (And.right (And.right (And.right (And.right (And.right (And.right (And.right (And.right (And.right (And.right (And.right (And.right (And.right (And.right (And.right (And.right (And.right (And.right (And.right (And.right (And.right (And.right (And.right (And.right (And.right (And.right he))))))))))))))))))))))))))))
  have d29 : (x 29) = .slice (some ⟨pb, po, none⟩) mp cP := And.left (And.right (And.right (And.right (And.right (And.right (And.right (And.right (And.right (And.right (And.right (And.right (And.right (And.right (And.right (And.right (And.right (And.right (And.right (And.right (And.right (And.right (And.right (And.right (And.right (And.right (And.right (And.right (And.right (And.right he)))))))))))))))))))))))))))))
  have d30 : (x 30) = .int .i64 (m1 : Int) := And.left (And.right (And.right (And.right (And.right (And.right (And.right (And.right (And.right (And.right (And.right (And.right (And.right (And.right (And.right (And.right (And.right (And.right (And.right (And.right (And.right (And.right (And.right (And.right (And.right (And.right (And.right (And.right (And.right (And.right (And.right he))))))))))))))))))))))))))))))
  have d31 : (x 31) = .pointer (some ⟨pb, po + m1 * 7, none⟩) := And.left (And.right (And.right (And.right (And.right (And.right (And.right (And.right (And.right (And.right (And.right (And.right (And.right (And.right (And.right (And.right (And.right (And.right (And.right (And.right (And.right (And.right (And.right (And.right (And.right (And.right (And.right (And.right (And.right (And.right (And.right (And.right he)))))))))))))))))))))))))))))))
  have d32 : (x 32) = .pointer (some ⟨pb, po + m1 * 7 + 1, none⟩) := And.left (And.right (And.right (And.right (And.right (And.right (And.right (And.right (And.right (And.right (And.right (And.right (And.right (And.right (And.right (And.right (And.right (And.right (And.right (And.right (And.right (And.right (And.right (And.right (And.right (And.right (And.right (And.right (And.right (And.right (And.right (And.right (And.right he))))))))))))))))))))))))))))))))
  have d33 : (x 33) = .agg #[.int .i64 q.k, .int .i64 q.n, .string q.s, .slice A2 0 c2] := And.left (And.right (And.right (And.right (And.right (And.right (And.right (And.right (And.right (And.right (And.right (And.right (And.right (And.right (And.right (And.right (And.right (And.right (And.right (And.right (And.right (And.right (And.right (And.right (And.right (And.right (And.right (And.right (And.right (And.right (And.right (And.right (And.right (And.right he)))))))))))))))))))))))))))))))))
  have d34 : (x 34) = .bool true := And.left (And.right (And.right (And.right (And.right (And.right (And.right (And.right (And.right (And.right (And.right (And.right (And.right (And.right (And.right (And.right (And.right (And.right (And.right (And.right (And.right (And.right (And.right (And.right (And.right (And.right (And.right (And.right (And.right (And.right (And.right (And.right (And.right (And.right (And.right he))))))))))))))))))))))))))))))))))
  have d35 : (x 35) = .bool false := And.left (And.right (And.right (And.right (And.right (And.right (And.right (And.right (And.right (And.right (And.right (And.right (And.right (And.right (And.right (And.right (And.right (And.right (And.right (And.right (And.right (And.right (And.right (And.right (And.right (And.right (And.right (And.right (And.right (And.right (And.right (And.right (And.right (And.right (And.right (And.right he)))))))))))))))))))))))))))))))))))
  have d36 : (x 36) = .bool false := And.left (And.right (And.right (And.right (And.right (And.right (And.right (And.right (And.right (And.right (And.right (And.right (And.right (And.right (And.right (And.right (And.right (And.right (And.right (And.right (And.right (And.right (And.right (And.right (And.right (And.right (And.right (And.right (And.right (And.right (And.right (And.right (And.right (And.right (And.right (And.right (And.right he))))))))))))))))))))))))))))))))))))
  have d37 : (x 37) = .bool false := And.left (And.right (And.right (And.right (And.right (And.right (And.right (And.right (And.right (And.right (And.right (And.right (And.right (And.right (And.right (And.right (And.right (And.right (And.right (And.right (And.right (And.right (And.right (And.right (And.right (And.right (And.right (And.right (And.right (And.right (And.right (And.right (And.right (And.right (And.right (And.right (And.right (And.right he)))))))))))))))))))))))))))))))))))))
  clear he
  refine ⟨?_⟩
  simp only [putsFrom, Act.put, List.setIfInBounds_toArray, List.set_cons_zero, List.set_cons_succ, Nat.reduceAdd, d0, d1, d2, d3, d4, d5, d6, d7, d8, d9, d10, d11, d12, d13, d14, d15, d16, d17, d18, d19, d20, d21, d22, d23, d24, d25, d26, d27, d28, d29, d30, d31, d32, d33, d34, d35, d36, d37]
  clear d0 d1 d2 d3 d4 d5 d6 d7 d8 d9 d10 d11 d12 d13 d14 d15 d16 d17 d18 d19 d20 d21 d22 d23 d24 d25 d26 d27 d28 d29 d30 d31 d32 d33 d34 d35 d36 d37
  exact hE _ hg
end Go.Proofs.Ytfholconiofgoaa
