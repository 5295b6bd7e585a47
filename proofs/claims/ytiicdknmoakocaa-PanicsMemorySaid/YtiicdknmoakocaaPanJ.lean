/-
  The two regions of the law PanicsMemory that draw their order. No condition.
-/
import Derived.Test.YtiicdknmoakocaaPanL
import Derived.Test.YtiicdknmoakocaaRoomy
import Derived.Test.YtiicdknmoakocaaRegF
namespace Go.Proofs.Ytiicdknmoakocaa
open Go.RowKit
set_option linter.unusedVariables false
set_option linter.unusedSimpArgs false

set_option maxRecDepth 20000 in
set_option maxHeartbeats 4000000 in
theorem pmem22 {W : World} {Q : Exit → Act → World → Prop} {s0 s1 s2 s3 s4 s5 s6 s7 s9 s10 s11 s12 s13 s14 s15 s16 s17 s20 s21 s22 s23 s24 s25 s26 s27 s28 s29 s30 s31 s32 s33 s34 s35 s36 s37 s38 s39 s40 s41 s42 s43 s44 s45 s46 s47 s48 s49 s50 s51 s52 s53 s54 s55 s56 s57 s58 s59 s60 s61 s62 s63 s64 s65 s66 s67 s68 s69 s70 s71 s72 s73 s74 s75 s76 s77 s78 s79 s80 s81 s82 s83 s84 s85 s86 s87 s88 s89 s90 s91 s92 s93 s94 s95 s96 s97 s98 s99 s100 s101 s102 s103 s104 s105 s106 s107 s108 s109 s110 s111 s112 s113 s114 s115 s116 s117 s118 s119 s120 s121 s122 s123 s124 s125 s126 s127 s128 s129 s130 s131 s132 s133 s134 s135 s136 s137 s138 s139 s140 s141 s142 s143 s144 s145 s146 s147 s148 s149 s150 s151 s152 s153 s154 s155 s156 s157 s158 s159 s160 s161 s162 s163 s164 s165 s166 s167 s168 s169 s170 s171 s172 s173 s174 s175 s176 s177 s178 s179 s180 s181 s182 s183 s184 s185 s186 s187 s188 s189 s190 s191 s192 s193 s194 s195 s196 : Value} (bf bs fb fo n c k gd c5 : Nat) (A5 : Option Addr) (id ph : Int) (ds : List Int) (hbf : bf < W.heap.size) (hbs : bs < W.heap.size) (hfb : fb < W.heap.size) (F0 : W.cell? ⟨bf, 0, none⟩ = some (.int .i64 id)) (F3 : W.cell? ⟨bf, 3, none⟩ = some (.int .i64 ph)) (F4 : W.cell? ⟨bf, 4, none⟩ = some (.slice (some ⟨gd, 0, none⟩) ds.length (ds.length + 2))) (S0 : W.cell? ⟨bs, 0, none⟩ = some (.slice (some ⟨fb, fo, none⟩) n c)) (G0 : W.cell? ⟨fb, fo + k * 5, none⟩ = some (.int .i64 id)) (G3 : W.cell? ⟨fb, fo + k * 5 + 3, none⟩ = some (.int .i64 ph)) (G4 : W.cell? ⟨fb, fo + k * 5 + 4, none⟩ = some (.slice A5 ds.length c5)) (i1 : (k : Int) < (n : Int)) (hrm : RoomAt W gd ds) (hrd : RdInts W (.slice A5 ds.length c5) ds)
    (hE : ∀ u, Kp W u → Q .normal { tmps := #[s0, s1, s2, s3, s4, s5, s6, s7, .pointer (some ⟨bs, 0, none⟩), s9, s10, s11, s12, s13, s14, s15, s16, s17, .int .i64 (k : Int), .pointer (some ⟨bf, 0, none⟩), s20, s21, s22, s23, s24, s25, s26, s27, s28, s29, s30, s31, s32, s33, s34, s35, s36, s37, s38, s39, s40, s41, s42, s43, s44, s45, s46, s47, s48, s49, s50, s51, s52, s53, s54, s55, s56, s57, s58, s59, s60, s61, s62, s63, s64, s65, s66, s67, s68, s69, s70, s71, s72, s73, s74, s75, s76, s77, s78, s79, s80, s81, s82, s83, s84, s85, s86, s87, s88, s89, s90, s91, s92, s93, s94, s95, s96, s97, s98, s99, s100, .pointer (some ⟨bf, 0, none⟩), .int .i64 id, .pointer (some ⟨bs, 0, none⟩), .slice (some ⟨fb, fo, none⟩) n c, .int .i64 (k : Int), .pointer (some ⟨fb, fo + k * 5, none⟩), .pointer (some ⟨fb, fo + k * 5, none⟩), .int .i64 id, .bool false, .bool false, .pointer (some ⟨bf, 3, none⟩), .int .i64 ph, .pointer (some ⟨bs, 0, none⟩), .slice (some ⟨fb, fo, none⟩) n c, .int .i64 (k : Int), .pointer (some ⟨fb, fo + k * 5, none⟩), .pointer (some ⟨fb, fo + k * 5 + 3, none⟩), .int .i64 ph, .bool false, .bool false, .bool false, .pointer (some ⟨bf, 4, none⟩), .slice (some ⟨gd, 0, none⟩) ds.length (ds.length + 2), .pointer (some ⟨bs, 0, none⟩), .slice (some ⟨fb, fo, none⟩) n c, .int .i64 (k : Int), .pointer (some ⟨fb, fo + k * 5, none⟩), .pointer (some ⟨fb, fo + k * 5 + 4, none⟩), .slice A5 ds.length c5, .bool true, .bool false, .bool false, s133, s134, s135, s136, s137, s138, s139, s140, s141, s142, s143, s144, s145, s146, s147, s148, s149, s150, s151, s152, s153, s154, s155, s156, s157, s158, s159, s160, s161, s162, s163, s164, s165, s166, s167, s168, s169, s170, s171, s172, s173, s174, s175, s176, s177, s178, s179, s180, s181, s182, s183, s184, s185, s186, s187, s188, s189, s190, s191, s192, s193, s194, s195, s196], defers := [] } u) :
    (Code.region 22 (regArr Try.f3 22) true).wp Try.prog Q { tmps := #[s0, s1, s2, s3, s4, s5, s6, s7, .pointer (some ⟨bs, 0, none⟩), s9, s10, s11, s12, s13, s14, s15, s16, s17, .int .i64 (k : Int), .pointer (some ⟨bf, 0, none⟩), s20, s21, s22, s23, s24, s25, s26, s27, s28, s29, s30, s31, s32, s33, s34, s35, s36, s37, s38, s39, s40, s41, s42, s43, s44, s45, s46, s47, s48, s49, s50, s51, s52, s53, s54, s55, s56, s57, s58, s59, s60, s61, s62, s63, s64, s65, s66, s67, s68, s69, s70, s71, s72, s73, s74, s75, s76, s77, s78, s79, s80, s81, s82, s83, s84, s85, s86, s87, s88, s89, s90, s91, s92, s93, s94, s95, s96, s97, s98, s99, s100, s101, s102, s103, s104, s105, s106, s107, s108, s109, s110, s111, s112, s113, s114, s115, s116, s117, s118, s119, s120, s121, s122, s123, s124, s125, s126, s127, s128, s129, s130, s131, s132, s133, s134, s135, s136, s137, s138, s139, s140, s141, s142, s143, s144, s145, s146, s147, s148, s149, s150, s151, s152, s153, s154, s155, s156, s157, s158, s159, s160, s161, s162, s163, s164, s165, s166, s167, s168, s169, s170, s171, s172, s173, s174, s175, s176, s177, s178, s179, s180, s181, s182, s183, s184, s185, s186, s187, s188, s189, s190, s191, s192, s193, s194, s195, s196], defers := [] } W := by
  simp only [regArr, Try.f3, Option.map_some, Option.getD_some, regOf, if_true, if_false, List.append_nil, List.nil_append, List.toList_toArray, Nat.reduceEqDiff, reduceIte]
  refine wp_region_kp [[], [0], [], [2], [], [3, 4], [5], [6], [1, 7], [8], [9], [9, 10], [9], [9, 12], [9], [9, 13, 14], [9, 15], [9, 16], [9, 11, 17], [9, 18], [19], [20], [20, 21], [20], [20, 23], [20], [20, 24, 25], [20, 26], [20, 27], [20, 22, 28], [20, 29], [20, 30]] (fun u => Kp W u)
    [fun (y : Value) (u : World) => y = (.pointer (some ⟨bf, 0, none⟩) : Value),
     fun (y : Value) (u : World) => y = (.int .i64 id : Value),
     fun (y : Value) (u : World) => y = (.pointer (some ⟨bs, 0, none⟩) : Value),
     fun (y : Value) (u : World) => y = (.slice (some ⟨fb, fo, none⟩) n c : Value),
     fun (y : Value) (u : World) => y = (.int .i64 (k : Int) : Value),
     fun (y : Value) (u : World) => y = (.pointer (some ⟨fb, fo + k * 5, none⟩) : Value),
     fun (y : Value) (u : World) => y = (.pointer (some ⟨fb, fo + k * 5, none⟩) : Value),
     fun (y : Value) (u : World) => y = (.int .i64 id : Value),
     fun (y : Value) (u : World) => y = (.bool false : Value),
     fun (y : Value) (u : World) => y = (.bool false : Value),
     fun (y : Value) (u : World) => y = (.pointer (some ⟨bf, 3, none⟩) : Value),
     fun (y : Value) (u : World) => y = (.int .i64 ph : Value),
     fun (y : Value) (u : World) => y = (.pointer (some ⟨bs, 0, none⟩) : Value),
     fun (y : Value) (u : World) => y = (.slice (some ⟨fb, fo, none⟩) n c : Value),
     fun (y : Value) (u : World) => y = (.int .i64 (k : Int) : Value),
     fun (y : Value) (u : World) => y = (.pointer (some ⟨fb, fo + k * 5, none⟩) : Value),
     fun (y : Value) (u : World) => y = (.pointer (some ⟨fb, fo + k * 5 + 3, none⟩) : Value),
     fun (y : Value) (u : World) => y = (.int .i64 ph : Value),
     fun (y : Value) (u : World) => y = (.bool false : Value),
     fun (y : Value) (u : World) => y = (.bool false : Value),
     fun (y : Value) (u : World) => y = (.bool false : Value),
     fun (y : Value) (u : World) => y = (.pointer (some ⟨bf, 4, none⟩) : Value),
     fun (y : Value) (u : World) => y = (.slice (some ⟨gd, 0, none⟩) ds.length (ds.length + 2) : Value),
     fun (y : Value) (u : World) => y = (.pointer (some ⟨bs, 0, none⟩) : Value),
     fun (y : Value) (u : World) => y = (.slice (some ⟨fb, fo, none⟩) n c : Value),
     fun (y : Value) (u : World) => y = (.int .i64 (k : Int) : Value),
     fun (y : Value) (u : World) => y = (.pointer (some ⟨fb, fo + k * 5, none⟩) : Value),
     fun (y : Value) (u : World) => y = (.pointer (some ⟨fb, fo + k * 5 + 4, none⟩) : Value),
     fun (y : Value) (u : World) => y = (.slice A5 ds.length c5 : Value),
     fun (y : Value) (u : World) => y = (.bool true : Value),
     fun (y : Value) (u : World) => y = (.bool false : Value),
     fun (y : Value) (u : World) => y = (.bool false : Value)]
    (by kernel_rfl) (by kernel_rfl) (by kernel_rfl) (by kernel_rfl) ((Kp.refl _).drew) (fun _ _ hk h => h.trans hk) ⟨fun _ _ _ _ h => h, fun _ _ _ _ h => h, fun _ _ _ _ h => h, fun _ _ _ _ h => h, fun _ _ _ _ h => h, fun _ _ _ _ h => h, fun _ _ _ _ h => h, fun _ _ _ _ h => h, fun _ _ _ _ h => h, fun _ _ _ _ h => h, fun _ _ _ _ h => h, fun _ _ _ _ h => h, fun _ _ _ _ h => h, fun _ _ _ _ h => h, fun _ _ _ _ h => h, fun _ _ _ _ h => h, fun _ _ _ _ h => h, fun _ _ _ _ h => h, fun _ _ _ _ h => h, fun _ _ _ _ h => h, fun _ _ _ _ h => h, fun _ _ _ _ h => h, fun _ _ _ _ h => h, fun _ _ _ _ h => h, fun _ _ _ _ h => h, fun _ _ _ _ h => h, fun _ _ _ _ h => h, fun _ _ _ _ h => h, fun _ _ _ _ h => h, fun _ _ _ _ h => h, fun _ _ _ _ h => h, fun _ _ _ _ h => h, trivial⟩ ⟨?sb0, ?sb1, ?sb2, ?sb3, ?sb4, ?sb5, ?sb6, ?sb7, ?sb8, ?sb9, ?sb10, ?sb11, ?sb12, ?sb13, ?sb14, ?sb15, ?sb16, ?sb17, ?sb18, ?sb19, ?sb20, ?sb21, ?sb22, ?sb23, ?sb24, ?sb25, ?sb26, ?sb27, ?sb28, ?sb29, ?sb30, ?sb31, trivial⟩ ?hEb
  case sb0 =>
    refine OpStepK.by_ ?_
    intro a x u ht hs hg hd K hK
    clear hd
    refine OpGoal.live (wanted_free (by kernel_rfl)) ?_
    have e19 : a.tmps[19]? = some (.pointer (some ⟨bf, 0, none⟩) : Value) := (hs 19).trans (by kernel_rfl)
    clear ht hs
    go_simp
    exact hK.out _ _ (Kp.refl _) rfl
  case sb1 =>
    refine OpStepK.by_ ?_
    intro a x u ht hs hg hd K hK
    have d0 : (x 0) = .pointer (some ⟨bf, 0, none⟩) := And.left hd
    clear hd
    refine OpGoal.live (wanted_free (by kernel_rfl)) ?_
    have e101 : a.tmps[101]? = some (.pointer (some ⟨bf, 0, none⟩) : Value) := (hs 101).trans (Eq.trans (b := some (x 0)) (by kernel_rfl) (by rw [d0]))
    clear d0
    clear ht hs
    have q0 := cell_kp hg hbf F0
    go_simp
    exact hK.out _ _ (Kp.refl _) rfl
  case sb2 =>
    refine OpStepK.by_ ?_
    intro a x u ht hs hg hd K hK
    clear hd
    refine OpGoal.live (wanted_free (by kernel_rfl)) ?_
    have e8 : a.tmps[8]? = some (.pointer (some ⟨bs, 0, none⟩) : Value) := (hs 8).trans (by kernel_rfl)
    clear ht hs
    go_simp
    exact hK.out _ _ (Kp.refl _) rfl
  case sb3 =>
    refine OpStepK.by_ ?_
    intro a x u ht hs hg hd K hK
    have d2 : (x 2) = .pointer (some ⟨bs, 0, none⟩) := And.left hd
    clear hd
    refine OpGoal.live (wanted_free (by kernel_rfl)) ?_
    have e103 : a.tmps[103]? = some (.pointer (some ⟨bs, 0, none⟩) : Value) := (hs 103).trans (Eq.trans (b := some (x 2)) (by kernel_rfl) (by rw [d2]))
    clear d2
    clear ht hs
    have q0 := cell_kp hg hbs S0
    go_simp
    exact hK.out _ _ (Kp.refl _) rfl
  case sb4 =>
    refine OpStepK.by_ ?_
    intro a x u ht hs hg hd K hK
    clear hd
    refine OpGoal.live (wanted_free (by kernel_rfl)) ?_
    have e18 : a.eval (Operand.tmp 18) = (.int .i64 (k : Int) : Value) := (ht 18).trans (by kernel_rfl)
    clear ht hs
    refine BigFrame.wp_move _ rfl ?_
    exact hK.out _ _ (Kp.refl _) e18
  case sb5 =>
    refine OpStepK.by_ ?_
    intro a x u ht hs hg hd K hK
    have d3 : (x 3) = .slice (some ⟨fb, fo, none⟩) n c := And.left hd
    have d4 : (x 4) = .int .i64 (k : Int) := And.left (And.right hd)
    clear hd
    refine OpGoal.live (wanted_free (by kernel_rfl)) ?_
    have e104 : a.tmps[104]? = some (.slice (some ⟨fb, fo, none⟩) n c : Value) := (hs 104).trans (Eq.trans (b := some (x 3)) (by kernel_rfl) (by rw [d3]))
    have e105 : a.tmps[105]? = some (.int .i64 (k : Int) : Value) := (hs 105).trans (Eq.trans (b := some (x 4)) (by kernel_rfl) (by rw [d4]))
    clear d3 d4
    clear ht hs
    go_simp
    exact hK.out _ _ (Kp.refl _) rfl
  case sb6 =>
    refine OpStepK.by_ ?_
    intro a x u ht hs hg hd K hK
    have d5 : (x 5) = .pointer (some ⟨fb, fo + k * 5, none⟩) := And.left hd
    clear hd
    refine OpGoal.live (wanted_free (by kernel_rfl)) ?_
    have e106 : a.tmps[106]? = some (.pointer (some ⟨fb, fo + k * 5, none⟩) : Value) := (hs 106).trans (Eq.trans (b := some (x 5)) (by kernel_rfl) (by rw [d5]))
    clear d5
    clear ht hs
    go_simp
    exact hK.out _ _ (Kp.refl _) rfl
  case sb7 =>
    refine OpStepK.by_ ?_
    intro a x u ht hs hg hd K hK
    have d6 : (x 6) = .pointer (some ⟨fb, fo + k * 5, none⟩) := And.left hd
    clear hd
    refine OpGoal.live (wanted_free (by kernel_rfl)) ?_
    have e107 : a.tmps[107]? = some (.pointer (some ⟨fb, fo + k * 5, none⟩) : Value) := (hs 107).trans (Eq.trans (b := some (x 6)) (by kernel_rfl) (by rw [d6]))
    clear d6
    clear ht hs
    have q0 := cell_kp hg hfb G0
    go_simp
    exact hK.out _ _ (Kp.refl _) rfl
  case sb8 =>
    refine OpStepK.by_ ?_
    intro a x u ht hs hg hd K hK
    have d1 : (x 1) = .int .i64 id := And.left hd
    have d7 : (x 7) = .int .i64 id := And.left (And.right hd)
    clear hd
    refine OpGoal.live (wanted_free (by kernel_rfl)) ?_
    have e102 : a.tmps[102]? = some (.int .i64 id : Value) := (hs 102).trans (Eq.trans (b := some (x 1)) (by kernel_rfl) (by rw [d1]))
    have e108 : a.tmps[108]? = some (.int .i64 id : Value) := (hs 108).trans (Eq.trans (b := some (x 7)) (by kernel_rfl) (by rw [d7]))
    clear d1 d7
    clear ht hs
    go_simp
    exact hK.out _ _ (Kp.refl _) rfl
  case sb9 =>
    refine OpStepK.by_ ?_
    intro a x u ht hs hg hd K hK
    have d8 : (x 8) = .bool false := And.left hd
    clear hd
    refine OpGoal.live (wanted_free (by kernel_rfl)) ?_
    have e109 : a.eval (Operand.tmp 109) = (.bool false : Value) := (ht 109).trans (Eq.trans (b := x 8) (by kernel_rfl) d8)
    clear d8
    clear ht hs
    refine BigFrame.wp_move _ rfl ?_
    exact hK.out _ _ (Kp.refl _) e109
  case sb10 =>
    refine OpStepK.by_ ?_
    intro a x u ht hs hg hd K hK
    have d9 : (x 9) = .bool false := And.left hd
    clear hd
    refine OpGoal.live (wanted_yes (j := 9) (d := 110) (by kernel_rfl) (by kernel_rfl) ((hs 110).trans (Eq.trans (b := some (x 9)) (by kernel_rfl) (by rw [d9])))) ?_
    have e19 : a.tmps[19]? = some (.pointer (some ⟨bf, 0, none⟩) : Value) := (hs 19).trans (by kernel_rfl)
    clear d9
    clear ht hs
    go_simp
    exact hK.out _ _ (Kp.refl _) rfl
  case sb11 =>
    refine OpStepK.by_ ?_
    intro a x u ht hs hg hd K hK
    have d9 : (x 9) = .bool false := And.left hd
    have d10 : (x 10) = .pointer (some ⟨bf, 3, none⟩) := And.left (And.right hd)
    clear hd
    refine OpGoal.live (wanted_yes (j := 9) (d := 110) (by kernel_rfl) (by kernel_rfl) ((hs 110).trans (Eq.trans (b := some (x 9)) (by kernel_rfl) (by rw [d9])))) ?_
    have e111 : a.tmps[111]? = some (.pointer (some ⟨bf, 3, none⟩) : Value) := (hs 111).trans (Eq.trans (b := some (x 10)) (by kernel_rfl) (by rw [d10]))
    clear d9 d10
    clear ht hs
    have q0 := cell_kp hg hbf F3
    go_simp
    exact hK.out _ _ (Kp.refl _) rfl
  case sb12 =>
    refine OpStepK.by_ ?_
    intro a x u ht hs hg hd K hK
    have d9 : (x 9) = .bool false := And.left hd
    clear hd
    refine OpGoal.live (wanted_yes (j := 9) (d := 110) (by kernel_rfl) (by kernel_rfl) ((hs 110).trans (Eq.trans (b := some (x 9)) (by kernel_rfl) (by rw [d9])))) ?_
    have e8 : a.tmps[8]? = some (.pointer (some ⟨bs, 0, none⟩) : Value) := (hs 8).trans (by kernel_rfl)
    clear d9
    clear ht hs
    go_simp
    exact hK.out _ _ (Kp.refl _) rfl
  case sb13 =>
    refine OpStepK.by_ ?_
    intro a x u ht hs hg hd K hK
    have d9 : (x 9) = .bool false := And.left hd
    have d12 : (x 12) = .pointer (some ⟨bs, 0, none⟩) := And.left (And.right hd)
    clear hd
    refine OpGoal.live (wanted_yes (j := 9) (d := 110) (by kernel_rfl) (by kernel_rfl) ((hs 110).trans (Eq.trans (b := some (x 9)) (by kernel_rfl) (by rw [d9])))) ?_
    have e113 : a.tmps[113]? = some (.pointer (some ⟨bs, 0, none⟩) : Value) := (hs 113).trans (Eq.trans (b := some (x 12)) (by kernel_rfl) (by rw [d12]))
    clear d9 d12
    clear ht hs
    have q0 := cell_kp hg hbs S0
    go_simp
    exact hK.out _ _ (Kp.refl _) rfl
  case sb14 =>
    refine OpStepK.by_ ?_
    intro a x u ht hs hg hd K hK
    have d9 : (x 9) = .bool false := And.left hd
    clear hd
    refine OpGoal.live (wanted_yes (j := 9) (d := 110) (by kernel_rfl) (by kernel_rfl) ((hs 110).trans (Eq.trans (b := some (x 9)) (by kernel_rfl) (by rw [d9])))) ?_
    have e18 : a.eval (Operand.tmp 18) = (.int .i64 (k : Int) : Value) := (ht 18).trans (by kernel_rfl)
    clear d9
    clear ht hs
    refine BigFrame.wp_move _ rfl ?_
    exact hK.out _ _ (Kp.refl _) e18
  case sb15 =>
    refine OpStepK.by_ ?_
    intro a x u ht hs hg hd K hK
    have d9 : (x 9) = .bool false := And.left hd
    have d13 : (x 13) = .slice (some ⟨fb, fo, none⟩) n c := And.left (And.right hd)
    have d14 : (x 14) = .int .i64 (k : Int) := And.left (And.right (And.right hd))
    clear hd
    refine OpGoal.live (wanted_yes (j := 9) (d := 110) (by kernel_rfl) (by kernel_rfl) ((hs 110).trans (Eq.trans (b := some (x 9)) (by kernel_rfl) (by rw [d9])))) ?_
    have e114 : a.tmps[114]? = some (.slice (some ⟨fb, fo, none⟩) n c : Value) := (hs 114).trans (Eq.trans (b := some (x 13)) (by kernel_rfl) (by rw [d13]))
    have e115 : a.tmps[115]? = some (.int .i64 (k : Int) : Value) := (hs 115).trans (Eq.trans (b := some (x 14)) (by kernel_rfl) (by rw [d14]))
    clear d9 d13 d14
    clear ht hs
    go_simp
    exact hK.out _ _ (Kp.refl _) rfl
  case sb16 =>
    refine OpStepK.by_ ?_
    intro a x u ht hs hg hd K hK
    have d9 : (x 9) = .bool false := And.left hd
    have d15 : (x 15) = .pointer (some ⟨fb, fo + k * 5, none⟩) := And.left (And.right hd)
    clear hd
    refine OpGoal.live (wanted_yes (j := 9) (d := 110) (by kernel_rfl) (by kernel_rfl) ((hs 110).trans (Eq.trans (b := some (x 9)) (by kernel_rfl) (by rw [d9])))) ?_
    have e116 : a.tmps[116]? = some (.pointer (some ⟨fb, fo + k * 5, none⟩) : Value) := (hs 116).trans (Eq.trans (b := some (x 15)) (by kernel_rfl) (by rw [d15]))
    clear d9 d15
    clear ht hs
    go_simp
    exact hK.out _ _ (Kp.refl _) rfl
  case sb17 =>
    refine OpStepK.by_ ?_
    intro a x u ht hs hg hd K hK
    have d9 : (x 9) = .bool false := And.left hd
    have d16 : (x 16) = .pointer (some ⟨fb, fo + k * 5 + 3, none⟩) := And.left (And.right hd)
    clear hd
    refine OpGoal.live (wanted_yes (j := 9) (d := 110) (by kernel_rfl) (by kernel_rfl) ((hs 110).trans (Eq.trans (b := some (x 9)) (by kernel_rfl) (by rw [d9])))) ?_
    have e117 : a.tmps[117]? = some (.pointer (some ⟨fb, fo + k * 5 + 3, none⟩) : Value) := (hs 117).trans (Eq.trans (b := some (x 16)) (by kernel_rfl) (by rw [d16]))
    clear d9 d16
    clear ht hs
    have q0 := cell_kp hg hfb G3
    go_simp
    exact hK.out _ _ (Kp.refl _) rfl
  case sb18 =>
    refine OpStepK.by_ ?_
    intro a x u ht hs hg hd K hK
    have d9 : (x 9) = .bool false := And.left hd
    have d11 : (x 11) = .int .i64 ph := And.left (And.right hd)
    have d17 : (x 17) = .int .i64 ph := And.left (And.right (And.right hd))
    clear hd
    refine OpGoal.live (wanted_yes (j := 9) (d := 110) (by kernel_rfl) (by kernel_rfl) ((hs 110).trans (Eq.trans (b := some (x 9)) (by kernel_rfl) (by rw [d9])))) ?_
    have e112 : a.tmps[112]? = some (.int .i64 ph : Value) := (hs 112).trans (Eq.trans (b := some (x 11)) (by kernel_rfl) (by rw [d11]))
    have e118 : a.tmps[118]? = some (.int .i64 ph : Value) := (hs 118).trans (Eq.trans (b := some (x 17)) (by kernel_rfl) (by rw [d17]))
    clear d9 d11 d17
    clear ht hs
    go_simp
    exact hK.out _ _ (Kp.refl _) rfl
  case sb19 =>
    refine OpStepK.by_ ?_
    intro a x u ht hs hg hd K hK
    have d9 : (x 9) = .bool false := And.left hd
    have d18 : (x 18) = .bool false := And.left (And.right hd)
    clear hd
    refine OpGoal.live (wanted_free (by kernel_rfl)) ?_
    have e110 : a.tmps[110]? = some (.bool false : Value) := (hs 110).trans (Eq.trans (b := some (x 9)) (by kernel_rfl) (by rw [d9]))
    have e119 : a.tmps[119]? = some (.bool false : Value) := (hs 119).trans (Eq.trans (b := some (x 18)) (by kernel_rfl) (by rw [d18]))
    clear d9 d18
    clear ht hs
    go_simp
    exact hK.out _ _ (Kp.refl _) rfl
  case sb20 =>
    refine OpStepK.by_ ?_
    intro a x u ht hs hg hd K hK
    have d19 : (x 19) = .bool false := And.left hd
    clear hd
    refine OpGoal.live (wanted_free (by kernel_rfl)) ?_
    have e120 : a.eval (Operand.tmp 120) = (.bool false : Value) := (ht 120).trans (Eq.trans (b := x 19) (by kernel_rfl) d19)
    clear d19
    clear ht hs
    refine BigFrame.wp_move _ rfl ?_
    exact hK.out _ _ (Kp.refl _) e120
  case sb21 =>
    refine OpStepK.by_ ?_
    intro a x u ht hs hg hd K hK
    have d20 : (x 20) = .bool false := And.left hd
    clear hd
    refine OpGoal.live (wanted_yes (j := 20) (d := 121) (by kernel_rfl) (by kernel_rfl) ((hs 121).trans (Eq.trans (b := some (x 20)) (by kernel_rfl) (by rw [d20])))) ?_
    have e19 : a.tmps[19]? = some (.pointer (some ⟨bf, 0, none⟩) : Value) := (hs 19).trans (by kernel_rfl)
    clear d20
    clear ht hs
    go_simp
    exact hK.out _ _ (Kp.refl _) rfl
  case sb22 =>
    refine OpStepK.by_ ?_
    intro a x u ht hs hg hd K hK
    have d20 : (x 20) = .bool false := And.left hd
    have d21 : (x 21) = .pointer (some ⟨bf, 4, none⟩) := And.left (And.right hd)
    clear hd
    refine OpGoal.live (wanted_yes (j := 20) (d := 121) (by kernel_rfl) (by kernel_rfl) ((hs 121).trans (Eq.trans (b := some (x 20)) (by kernel_rfl) (by rw [d20])))) ?_
    have e122 : a.tmps[122]? = some (.pointer (some ⟨bf, 4, none⟩) : Value) := (hs 122).trans (Eq.trans (b := some (x 21)) (by kernel_rfl) (by rw [d21]))
    clear d20 d21
    clear ht hs
    have q0 := cell_kp hg hbf F4
    go_simp
    exact hK.out _ _ (Kp.refl _) rfl
  case sb23 =>
    refine OpStepK.by_ ?_
    intro a x u ht hs hg hd K hK
    have d20 : (x 20) = .bool false := And.left hd
    clear hd
    refine OpGoal.live (wanted_yes (j := 20) (d := 121) (by kernel_rfl) (by kernel_rfl) ((hs 121).trans (Eq.trans (b := some (x 20)) (by kernel_rfl) (by rw [d20])))) ?_
    have e8 : a.tmps[8]? = some (.pointer (some ⟨bs, 0, none⟩) : Value) := (hs 8).trans (by kernel_rfl)
    clear d20
    clear ht hs
    go_simp
    exact hK.out _ _ (Kp.refl _) rfl
  case sb24 =>
    refine OpStepK.by_ ?_
    intro a x u ht hs hg hd K hK
    have d20 : (x 20) = .bool false := And.left hd
    have d23 : (x 23) = .pointer (some ⟨bs, 0, none⟩) := And.left (And.right hd)
    clear hd
    refine OpGoal.live (wanted_yes (j := 20) (d := 121) (by kernel_rfl) (by kernel_rfl) ((hs 121).trans (Eq.trans (b := some (x 20)) (by kernel_rfl) (by rw [d20])))) ?_
    have e124 : a.tmps[124]? = some (.pointer (some ⟨bs, 0, none⟩) : Value) := (hs 124).trans (Eq.trans (b := some (x 23)) (by kernel_rfl) (by rw [d23]))
    clear d20 d23
    clear ht hs
    have q0 := cell_kp hg hbs S0
    go_simp
    exact hK.out _ _ (Kp.refl _) rfl
  case sb25 =>
    refine OpStepK.by_ ?_
    intro a x u ht hs hg hd K hK
    have d20 : (x 20) = .bool false := And.left hd
    clear hd
    refine OpGoal.live (wanted_yes (j := 20) (d := 121) (by kernel_rfl) (by kernel_rfl) ((hs 121).trans (Eq.trans (b := some (x 20)) (by kernel_rfl) (by rw [d20])))) ?_
    have e18 : a.eval (Operand.tmp 18) = (.int .i64 (k : Int) : Value) := (ht 18).trans (by kernel_rfl)
    clear d20
    clear ht hs
    refine BigFrame.wp_move _ rfl ?_
    exact hK.out _ _ (Kp.refl _) e18
  case sb26 =>
    refine OpStepK.by_ ?_
    intro a x u ht hs hg hd K hK
    have d20 : (x 20) = .bool false := And.left hd
    have d24 : (x 24) = .slice (some ⟨fb, fo, none⟩) n c := And.left (And.right hd)
    have d25 : (x 25) = .int .i64 (k : Int) := And.left (And.right (And.right hd))
    clear hd
    refine OpGoal.live (wanted_yes (j := 20) (d := 121) (by kernel_rfl) (by kernel_rfl) ((hs 121).trans (Eq.trans (b := some (x 20)) (by kernel_rfl) (by rw [d20])))) ?_
    have e125 : a.tmps[125]? = some (.slice (some ⟨fb, fo, none⟩) n c : Value) := (hs 125).trans (Eq.trans (b := some (x 24)) (by kernel_rfl) (by rw [d24]))
    have e126 : a.tmps[126]? = some (.int .i64 (k : Int) : Value) := (hs 126).trans (Eq.trans (b := some (x 25)) (by kernel_rfl) (by rw [d25]))
    clear d20 d24 d25
    clear ht hs
    go_simp
    exact hK.out _ _ (Kp.refl _) rfl
  case sb27 =>
    refine OpStepK.by_ ?_
    intro a x u ht hs hg hd K hK
    have d20 : (x 20) = .bool false := And.left hd
    have d26 : (x 26) = .pointer (some ⟨fb, fo + k * 5, none⟩) := And.left (And.right hd)
    clear hd
    refine OpGoal.live (wanted_yes (j := 20) (d := 121) (by kernel_rfl) (by kernel_rfl) ((hs 121).trans (Eq.trans (b := some (x 20)) (by kernel_rfl) (by rw [d20])))) ?_
    have e127 : a.tmps[127]? = some (.pointer (some ⟨fb, fo + k * 5, none⟩) : Value) := (hs 127).trans (Eq.trans (b := some (x 26)) (by kernel_rfl) (by rw [d26]))
    clear d20 d26
    clear ht hs
    go_simp
    exact hK.out _ _ (Kp.refl _) rfl
  case sb28 =>
    refine OpStepK.by_ ?_
    intro a x u ht hs hg hd K hK
    have d20 : (x 20) = .bool false := And.left hd
    have d27 : (x 27) = .pointer (some ⟨fb, fo + k * 5 + 4, none⟩) := And.left (And.right hd)
    clear hd
    refine OpGoal.live (wanted_yes (j := 20) (d := 121) (by kernel_rfl) (by kernel_rfl) ((hs 121).trans (Eq.trans (b := some (x 20)) (by kernel_rfl) (by rw [d20])))) ?_
    have e128 : a.tmps[128]? = some (.pointer (some ⟨fb, fo + k * 5 + 4, none⟩) : Value) := (hs 128).trans (Eq.trans (b := some (x 27)) (by kernel_rfl) (by rw [d27]))
    clear d20 d27
    clear ht hs
    have q0 := cell_kp hg hfb G4
    go_simp
    exact hK.out _ _ (Kp.refl _) rfl
  case sb29 =>
    intro x u hg hd K hK
    have d20 : (x 20) = .bool false := And.left hd
    have d22 : (x 22) = .slice (some ⟨gd, 0, none⟩) ds.length (ds.length + 2) := And.left (And.right hd)
    have d28 : (x 28) = .slice A5 ds.length c5 := And.left (And.right (And.right hd))
    clear hd
    refine ⟨?_⟩
    simp only [putsFrom, Act.put, List.setIfInBounds_toArray, List.set_cons_zero, List.set_cons_succ, Nat.reduceAdd, d20, d22, d28] at hK ⊢
    go_simp
    go_at_call 13
    have hc := stayed_any gd _ ds _ (hrm.kp hg) (hrd.kp hg)
    refine hc.mono ?_
    clear hc
    rintro e u' ⟨rfl, hk9⟩
    dsimp only
    exact hK.out _ _ hk9 rfl
  case sb30 =>
    refine OpStepK.by_ ?_
    intro a x u ht hs hg hd K hK
    have d20 : (x 20) = .bool false := And.left hd
    have d29 : (x 29) = .bool true := And.left (And.right hd)
    clear hd
    refine OpGoal.live (wanted_yes (j := 20) (d := 121) (by kernel_rfl) (by kernel_rfl) ((hs 121).trans (Eq.trans (b := some (x 20)) (by kernel_rfl) (by rw [d20])))) ?_
    have e130 : a.tmps[130]? = some (.bool true : Value) := (hs 130).trans (Eq.trans (b := some (x 29)) (by kernel_rfl) (by rw [d29]))
    clear d20 d29
    clear ht hs
    go_simp
    exact hK.out _ _ (Kp.refl _) rfl
  case sb31 =>
    refine OpStepK.by_ ?_
    intro a x u ht hs hg hd K hK
    have d20 : (x 20) = .bool false := And.left hd
    have d30 : (x 30) = .bool false := And.left (And.right hd)
    clear hd
    refine OpGoal.live (wanted_free (by kernel_rfl)) ?_
    have e121 : a.tmps[121]? = some (.bool false : Value) := (hs 121).trans (Eq.trans (b := some (x 20)) (by kernel_rfl) (by rw [d20]))
    have e131 : a.tmps[131]? = some (.bool false : Value) := (hs 131).trans (Eq.trans (b := some (x 30)) (by kernel_rfl) (by rw [d30]))
    clear d20 d30
    clear ht hs
    go_simp
    exact hK.out _ _ (Kp.refl _) rfl
  intro x u hg he
  have d0 : (x 0) = .pointer (some ⟨bf, 0, none⟩) := And.left he
  have d1 : (x 1) = .int .i64 id := And.left (And.right he)
  have d2 : (x 2) = .pointer (some ⟨bs, 0, none⟩) := And.left (And.right (And.right he))
  have d3 : (x 3) = .slice (some ⟨fb, fo, none⟩) n c := And.left (And.right (And.right (And.right he)))
  have d4 : (x 4) = .int .i64 (k : Int) := And.left (And.right (And.right (And.right (And.right he))))
  have d5 : (x 5) = .pointer (some ⟨fb, fo + k * 5, none⟩) := And.left (And.right (And.right (And.right (And.right (And.right he)))))
  have d6 : (x 6) = .pointer (some ⟨fb, fo + k * 5, none⟩) := And.left (And.right (And.right (And.right (And.right (And.right (And.right he))))))
  have d7 : (x 7) = .int .i64 id := And.left (And.right (And.right (And.right (And.right (And.right (And.right (And.right he)))))))
  have d8 : (x 8) = .bool false := And.left (And.right (And.right (And.right (And.right (And.right (And.right (And.right (And.right he))))))))
  have d9 : (x 9) = .bool false := And.left (And.right (And.right (And.right (And.right (And.right (And.right (And.right (And.right (And.right he)))))))))
  have d10 : (x 10) = .pointer (some ⟨bf, 3, none⟩) := And.left (And.right (And.right (And.right (And.right (And.right (And.right (And.right (And.right (And.right (And.right he))))))))))
  have d11 : (x 11) = .int .i64 ph := And.left (And.right (And.right (And.right (And.right (And.right (And.right (And.right (And.right (And.right (And.right (And.right he)))))))))))
  have d12 : (x 12) = .pointer (some ⟨bs, 0, none⟩) := And.left (And.right (And.right (And.right (And.right (And.right (And.right (And.right (And.right (And.right (And.right (And.right (And.right he))))))))))))
  have d13 : (x 13) = .slice (some ⟨fb, fo, none⟩) n c := And.left (And.right (And.right (And.right (And.right (And.right (And.right (And.right (And.right (And.right (And.right (And.right (And.right (And.right he)))))))))))))
  have d14 : (x 14) = .int .i64 (k : Int) := And.left (And.right (And.right (And.right (And.right (And.right (And.right (And.right (And.right (And.right (And.right (And.right (And.right (And.right (And.right he))))))))))))))
  have d15 : (x 15) = .pointer (some ⟨fb, fo + k * 5, none⟩) := And.left (And.right (And.right (And.right (And.right (And.right (And.right (And.right (And.right (And.right (And.right (And.right (And.right (And.right (And.right (And.right he)))))))))))))))
  have d16 : (x 16) = .pointer (some ⟨fb, fo + k * 5 + 3, none⟩) := And.left (And.right (And.right (And.right (And.right (And.right (And.right (And.right (And.right (And.right (And.right (And.right (And.right (And.right (And.right (And.right (And.right he))))))))))))))))
  have d17 : (x 17) = .int .i64 ph := And.left (And.right (And.right (And.right (And.right (And.right (And.right (And.right (And.right (And.right (And.right (And.right (And.right (And.right (And.right (And.right (And.right (And.right he)))))))))))))))))
  have d18 : (x 18) = .bool false := And.left (And.right (And.right (And.right (And.right (And.right (And.right (And.right (And.right (And.right (And.right (And.right (And.right (And.right (And.right (And.right (And.right (And.right (And.right he))))))))))))))))))
  have d19 : (x 19) = .bool false := And.left (And.right (And.right (And.right (And.right (And.right (And.right (And.right (And.right (And.right (And.right (And.right (And.right (And.right (And.right (And.right (And.right (And.right (And.right (And.right he)))))))))))))))))))
  have d20 : (x 20) = .bool false := And.left (And.right (And.right (And.right (And.right (And.right (And.right (And.right (And.right (And.right (And.right (And.right (And.right (And.right (And.right (And.right (And.right (And.right (And.right (And.right (And.right he))))))))))))))))))))
  have d21 : (x 21) = .pointer (some ⟨bf, 4, none⟩) := And.left (And.right (And.right (And.right (And.right (And.right (And.right (And.right (And.right (And.right (And.right (And.right (And.right (And.right (And.right (And.right (And.right (And.right (And.right (And.right (And.right (And.right he)))))))))))))))))))))
  have d22 : (x 22) = .slice (some ⟨gd, 0, none⟩) ds.length (ds.length + 2) := And.left (And.right (And.right (And.right (And.right (And.right (And.right (And.right (And.right (And.right (And.right (And.right (And.right (And.right (And.right (And.right (And.right (And.right (And.right (And.right (And.right (And.right (And.right he))))))))))))))))))))))
  have d23 : (x 23) = .pointer (some ⟨bs, 0, none⟩) := And.left (And.right (And.right (And.right (And.right (And.right (And.right (And.right (And.right (And.right (And.right (And.right (And.right (And.right (And.right (And.right (And.right (And.right (And.right (And.right (And.right (And.right (And.right (And.right he)))))))))))))))))))))))
  have d24 : (x 24) = .slice (some ⟨fb, fo, none⟩) n c := And.left (And.right (And.right (And.right (And.right (And.right (And.right (And.right (And.right (And.right (And.right (And.right (And.right (And.right (And.right (And.right (And.right (And.right (And.right (And.right (And.right (And.right (And.right (And.right (And.right he))))))))))))))))))))))))
  have d25 : (x 25) = .int .i64 (k : Int) := And.left (And.right (And.right (And.right (And.right (And.right (And.right (And.right (And.right (And.right (And.right (And.right (And.right (And.right (And.right (And.right (And.right (And.right (And.right (And.right (And.right (And.right (And.right (And.right (And.right (And.right he)))))))))))))))))))))))))
  have d26 : (x 26) = .pointer (some ⟨fb, fo + k * 5, none⟩) := And.left (And.right (And.right (And.right (And.right (And.right (And.right (And.right (And.right (And.right (And.right (And.right (And.right (And.right (And.right (And.right (And.right (And.right (And.right (And.right (And.right (And.right (And.right (And.right (And.right (And.right (And.right he))))))))))))))))))))))))))
  have d27 : (x 27) = .pointer (some ⟨fb, fo + k * 5 + 4, none⟩) := And.left (And.right (And.right (And.right (And.right (And.right (And.right (And.right (And.right (And.right (And.right (And.right (And.right (And.right (And.right (And.right (And.right (And.right (And.right (And.right (And.right (And.right (And.right (And.right (And.right (And.right (And.right (And.right he)))))))))))))))))))))))))))
  have d28 : (x 28) = .slice A5 ds.length c5 := And.left (And.right (And.right (And.right (And.right (And.right (And.right (And.right (And.right (And.right (And.right (And.right (And.right (And.right (And.right (And.right (And.right (And.right (And.right (And.right (And.right (And.right (And.right (And.right (And.right (And.right (And.right (And.right (And.right he))))))))))))))))))))))))))))
  have d29 : (x 29) = .bool true := And.left (And.right (And.right (And.right (And.right (And.right (And.right (And.right (And.right (And.right (And.right (And.right (And.right (And.right (And.right (And.right (And.right (And.right (And.right (And.right (And.right (And.right (And.right (And.right (And.right (And.right (And.right (And.right (And.right (And.right he)))))))))))))))))))))))))))))
  have d30 : (x 30) = .bool false := And.left (And.right (And.right (And.right (And.right (And.right (And.right (And.right (And.right (And.right (And.right (And.right (And.right (And.right (And.right (And.right (And.right (And.right (And.right (And.right (And.right (And.right (And.right (And.right (And.right (And.right (And.right (And.right (And.right (And.right (And.right he))))))))))))))))))))))))))))))
  have d31 : (x 31) = .bool false := And.left (And.right (And.right (And.right (And.right (And.right (And.right (And.right (And.right (And.right (And.right (And.right (And.right (And.right (And.right (And.right (And.right (And.right (And.right (And.right (And.right (And.right (And.right (And.right (And.right (And.right (And.right (And.right (And.right (And.right (And.right (And.right he)))))))))))))))))))))))))))))))
  clear he
  refine ⟨?_⟩
  simp only [putsFrom, Act.put, List.setIfInBounds_toArray, List.set_cons_zero, List.set_cons_succ, Nat.reduceAdd, d0, d1, d2, d3, d4, d5, d6, d7, d8, d9, d10, d11, d12, d13, d14, d15, d16, d17, d18, d19, d20, d21, d22, d23, d24, d25, d26, d27, d28, d29, d30, d31]
  clear d0 d1 d2 d3 d4 d5 d6 d7 d8 d9 d10 d11 d12 d13 d14 d15 d16 d17 d18 d19 d20 d21 d22 d23 d24 d25 d26 d27 d28 d29 d30 d31
  exact hE _ hg

set_option maxRecDepth 20000 in
set_option maxHeartbeats 4000000 in
theorem pmem27 {W : World} {Q : Exit → Act → World → Prop} {s0 s1 s2 s3 s4 s5 s6 s7 s10 s11 s12 s13 s14 s15 s16 s17 s18 s19 s21 s22 s23 s24 s25 s26 s27 s28 s29 s30 s31 s32 s33 s34 s35 s36 s37 s38 s39 s40 s41 s42 s43 s44 s45 s46 s47 s48 s49 s50 s51 s52 s53 s54 s55 s56 s57 s58 s59 s60 s61 s62 s63 s64 s65 s66 s67 s68 s69 s70 s71 s72 s73 s74 s75 s76 s77 s78 s79 s80 s81 s82 s83 s84 s85 s86 s87 s88 s89 s90 s91 s92 s93 s94 s95 s96 s97 s98 s99 s100 s101 s102 s103 s104 s105 s106 s107 s108 s109 s110 s111 s112 s113 s114 s115 s116 s117 s118 s119 s120 s121 s122 s123 s124 s125 s126 s127 s128 s129 s130 s131 s132 s133 s134 s135 s136 s137 s138 s139 s140 s141 s142 s143 s144 s145 s146 s147 s148 s149 s150 s151 s152 s153 s154 s155 s156 s157 s158 s159 s160 s161 s162 s163 s164 s165 s166 s167 s168 s169 s170 s171 s172 s173 s174 s175 s176 s177 s178 s179 s180 s181 s182 s183 s184 s185 s186 s187 s188 s189 s190 s191 s192 s193 s194 s195 s196 : Value} (b9 bs pb po qb qo n c9 c8 k : Nat) (sr : Int) (r g : Bool) (hb9 : b9 < W.heap.size) (hbs : bs < W.heap.size) (hpb : pb < W.heap.size) (hqb : qb < W.heap.size) (R1 : W.cell? ⟨b9, 1, none⟩ = some (.slice (some ⟨pb, po, none⟩) n c9)) (S1 : W.cell? ⟨bs, 1, none⟩ = some (.slice (some ⟨qb, qo, none⟩) n c8)) (P0 : W.cell? ⟨pb, po + k * 7, none⟩ = some (.int .i64 sr)) (P5 : W.cell? ⟨pb, po + k * 7 + 5, none⟩ = some (.bool r)) (P6 : W.cell? ⟨pb, po + k * 7 + 6, none⟩ = some (.bool g)) (Q0 : W.cell? ⟨qb, qo + k * 7, none⟩ = some (.int .i64 sr)) (Q5 : W.cell? ⟨qb, qo + k * 7 + 5, none⟩ = some (.bool r)) (Q6 : W.cell? ⟨qb, qo + k * 7 + 6, none⟩ = some (.bool g)) (i1 : (k : Int) < (n : Int))
    (hE : ∀ u, Kp W u → Q .normal { tmps := #[s0, s1, s2, s3, s4, s5, s6, s7, .pointer (some ⟨bs, 0, none⟩), .pointer (some ⟨b9, 0, none⟩), s10, s11, s12, s13, s14, s15, s16, s17, s18, s19, .int .i64 (k : Int), s21, s22, s23, s24, s25, s26, s27, s28, s29, s30, s31, s32, s33, s34, s35, s36, s37, s38, s39, s40, s41, s42, s43, s44, s45, s46, s47, s48, s49, s50, s51, s52, s53, s54, s55, s56, s57, s58, s59, s60, s61, s62, s63, s64, s65, s66, s67, s68, s69, s70, s71, s72, s73, s74, s75, s76, s77, s78, s79, s80, s81, s82, s83, s84, s85, s86, s87, s88, s89, s90, s91, s92, s93, s94, s95, s96, s97, s98, s99, s100, s101, s102, s103, s104, s105, s106, s107, s108, s109, s110, s111, s112, s113, s114, s115, s116, s117, s118, s119, s120, s121, s122, s123, s124, s125, s126, s127, s128, s129, s130, s131, s132, s133, s134, s135, s136, s137, s138, s139, .pointer (some ⟨b9, 1, none⟩), .slice (some ⟨pb, po, none⟩) n c9, .int .i64 (k : Int), .pointer (some ⟨pb, po + k * 7, none⟩), .pointer (some ⟨pb, po + k * 7, none⟩), .int .i64 sr, .pointer (some ⟨bs, 1, none⟩), .slice (some ⟨qb, qo, none⟩) n c8, .int .i64 (k : Int), .pointer (some ⟨qb, qo + k * 7, none⟩), .pointer (some ⟨qb, qo + k * 7, none⟩), .int .i64 sr, .bool false, .bool false, .pointer (some ⟨b9, 1, none⟩), .slice (some ⟨pb, po, none⟩) n c9, .int .i64 (k : Int), .pointer (some ⟨pb, po + k * 7, none⟩), .pointer (some ⟨pb, po + k * 7 + 5, none⟩), .bool r, .pointer (some ⟨bs, 1, none⟩), .slice (some ⟨qb, qo, none⟩) n c8, .int .i64 (k : Int), .pointer (some ⟨qb, qo + k * 7, none⟩), .pointer (some ⟨qb, qo + k * 7 + 5, none⟩), .bool r, .bool false, .bool false, .bool false, .pointer (some ⟨b9, 1, none⟩), .slice (some ⟨pb, po, none⟩) n c9, .int .i64 (k : Int), .pointer (some ⟨pb, po + k * 7, none⟩), .pointer (some ⟨pb, po + k * 7 + 6, none⟩), .bool g, .pointer (some ⟨bs, 1, none⟩), .slice (some ⟨qb, qo, none⟩) n c8, .int .i64 (k : Int), .pointer (some ⟨qb, qo + k * 7, none⟩), .pointer (some ⟨qb, qo + k * 7 + 6, none⟩), .bool g, .bool false, .bool false, s183, s184, s185, s186, s187, s188, s189, s190, s191, s192, s193, s194, s195, s196], defers := [] } u) :
    (Code.region 27 (regArr Try.f3 27) true).wp Try.prog Q { tmps := #[s0, s1, s2, s3, s4, s5, s6, s7, .pointer (some ⟨bs, 0, none⟩), .pointer (some ⟨b9, 0, none⟩), s10, s11, s12, s13, s14, s15, s16, s17, s18, s19, .int .i64 (k : Int), s21, s22, s23, s24, s25, s26, s27, s28, s29, s30, s31, s32, s33, s34, s35, s36, s37, s38, s39, s40, s41, s42, s43, s44, s45, s46, s47, s48, s49, s50, s51, s52, s53, s54, s55, s56, s57, s58, s59, s60, s61, s62, s63, s64, s65, s66, s67, s68, s69, s70, s71, s72, s73, s74, s75, s76, s77, s78, s79, s80, s81, s82, s83, s84, s85, s86, s87, s88, s89, s90, s91, s92, s93, s94, s95, s96, s97, s98, s99, s100, s101, s102, s103, s104, s105, s106, s107, s108, s109, s110, s111, s112, s113, s114, s115, s116, s117, s118, s119, s120, s121, s122, s123, s124, s125, s126, s127, s128, s129, s130, s131, s132, s133, s134, s135, s136, s137, s138, s139, s140, s141, s142, s143, s144, s145, s146, s147, s148, s149, s150, s151, s152, s153, s154, s155, s156, s157, s158, s159, s160, s161, s162, s163, s164, s165, s166, s167, s168, s169, s170, s171, s172, s173, s174, s175, s176, s177, s178, s179, s180, s181, s182, s183, s184, s185, s186, s187, s188, s189, s190, s191, s192, s193, s194, s195, s196], defers := [] } W := by
  simp only [regArr, Try.f3, Option.map_some, Option.getD_some, regOf, if_true, if_false, List.append_nil, List.nil_append, List.toList_toArray, Nat.reduceEqDiff, reduceIte]
  refine wp_region_kp [[], [0], [], [1, 2], [3], [4], [], [6], [], [7, 8], [9], [10], [5, 11], [12], [13], [13, 14], [13], [13, 15, 16], [13, 17], [13, 18], [13], [13, 20], [13], [13, 21, 22], [13, 23], [13, 24], [13, 19, 25], [13, 26], [27], [28], [28, 29], [28], [28, 30, 31], [28, 32], [28, 33], [28], [28, 35], [28], [28, 36, 37], [28, 38], [28, 39], [28, 34, 40], [28, 41]] (fun u => Kp W u)
    [fun (y : Value) (u : World) => y = (.pointer (some ⟨b9, 1, none⟩) : Value),
     fun (y : Value) (u : World) => y = (.slice (some ⟨pb, po, none⟩) n c9 : Value),
     fun (y : Value) (u : World) => y = (.int .i64 (k : Int) : Value),
     fun (y : Value) (u : World) => y = (.pointer (some ⟨pb, po + k * 7, none⟩) : Value),
     fun (y : Value) (u : World) => y = (.pointer (some ⟨pb, po + k * 7, none⟩) : Value),
     fun (y : Value) (u : World) => y = (.int .i64 sr : Value),
     fun (y : Value) (u : World) => y = (.pointer (some ⟨bs, 1, none⟩) : Value),
     fun (y : Value) (u : World) => y = (.slice (some ⟨qb, qo, none⟩) n c8 : Value),
     fun (y : Value) (u : World) => y = (.int .i64 (k : Int) : Value),
     fun (y : Value) (u : World) => y = (.pointer (some ⟨qb, qo + k * 7, none⟩) : Value),
     fun (y : Value) (u : World) => y = (.pointer (some ⟨qb, qo + k * 7, none⟩) : Value),
     fun (y : Value) (u : World) => y = (.int .i64 sr : Value),
     fun (y : Value) (u : World) => y = (.bool false : Value),
     fun (y : Value) (u : World) => y = (.bool false : Value),
     fun (y : Value) (u : World) => y = (.pointer (some ⟨b9, 1, none⟩) : Value),
     fun (y : Value) (u : World) => y = (.slice (some ⟨pb, po, none⟩) n c9 : Value),
     fun (y : Value) (u : World) => y = (.int .i64 (k : Int) : Value),
     fun (y : Value) (u : World) => y = (.pointer (some ⟨pb, po + k * 7, none⟩) : Value),
     fun (y : Value) (u : World) => y = (.pointer (some ⟨pb, po + k * 7 + 5, none⟩) : Value),
     fun (y : Value) (u : World) => y = (.bool r : Value),
     fun (y : Value) (u : World) => y = (.pointer (some ⟨bs, 1, none⟩) : Value),
     fun (y : Value) (u : World) => y = (.slice (some ⟨qb, qo, none⟩) n c8 : Value),
     fun (y : Value) (u : World) => y = (.int .i64 (k : Int) : Value),
     fun (y : Value) (u : World) => y = (.pointer (some ⟨qb, qo + k * 7, none⟩) : Value),
     fun (y : Value) (u : World) => y = (.pointer (some ⟨qb, qo + k * 7 + 5, none⟩) : Value),
     fun (y : Value) (u : World) => y = (.bool r : Value),
     fun (y : Value) (u : World) => y = (.bool false : Value),
     fun (y : Value) (u : World) => y = (.bool false : Value),
     fun (y : Value) (u : World) => y = (.bool false : Value),
     fun (y : Value) (u : World) => y = (.pointer (some ⟨b9, 1, none⟩) : Value),
     fun (y : Value) (u : World) => y = (.slice (some ⟨pb, po, none⟩) n c9 : Value),
     fun (y : Value) (u : World) => y = (.int .i64 (k : Int) : Value),
     fun (y : Value) (u : World) => y = (.pointer (some ⟨pb, po + k * 7, none⟩) : Value),
     fun (y : Value) (u : World) => y = (.pointer (some ⟨pb, po + k * 7 + 6, none⟩) : Value),
     fun (y : Value) (u : World) => y = (.bool g : Value),
     fun (y : Value) (u : World) => y = (.pointer (some ⟨bs, 1, none⟩) : Value),
     fun (y : Value) (u : World) => y = (.slice (some ⟨qb, qo, none⟩) n c8 : Value),
     fun (y : Value) (u : World) => y = (.int .i64 (k : Int) : Value),
     fun (y : Value) (u : World) => y = (.pointer (some ⟨qb, qo + k * 7, none⟩) : Value),
     fun (y : Value) (u : World) => y = (.pointer (some ⟨qb, qo + k * 7 + 6, none⟩) : Value),
     fun (y : Value) (u : World) => y = (.bool g : Value),
     fun (y : Value) (u : World) => y = (.bool false : Value),
     fun (y : Value) (u : World) => y = (.bool false : Value)]
    (by kernel_rfl) (by kernel_rfl) (by kernel_rfl) (by kernel_rfl) ((Kp.refl _).drew) (fun _ _ hk h => h.trans hk) ⟨fun _ _ _ _ h => h, fun _ _ _ _ h => h, fun _ _ _ _ h => h, fun _ _ _ _ h => h, fun _ _ _ _ h => h, fun _ _ _ _ h => h, fun _ _ _ _ h => h, fun _ _ _ _ h => h, fun _ _ _ _ h => h, fun _ _ _ _ h => h, fun _ _ _ _ h => h, fun _ _ _ _ h => h, fun _ _ _ _ h => h, fun _ _ _ _ h => h, fun _ _ _ _ h => h, fun _ _ _ _ h => h, fun _ _ _ _ h => h, fun _ _ _ _ h => h, fun _ _ _ _ h => h, fun _ _ _ _ h => h, fun _ _ _ _ h => h, fun _ _ _ _ h => h, fun _ _ _ _ h => h, fun _ _ _ _ h => h, fun _ _ _ _ h => h, fun _ _ _ _ h => h, fun _ _ _ _ h => h, fun _ _ _ _ h => h, fun _ _ _ _ h => h, fun _ _ _ _ h => h, fun _ _ _ _ h => h, fun _ _ _ _ h => h, fun _ _ _ _ h => h, fun _ _ _ _ h => h, fun _ _ _ _ h => h, fun _ _ _ _ h => h, fun _ _ _ _ h => h, fun _ _ _ _ h => h, fun _ _ _ _ h => h, fun _ _ _ _ h => h, fun _ _ _ _ h => h, fun _ _ _ _ h => h, fun _ _ _ _ h => h, trivial⟩ ⟨?sc0, ?sc1, ?sc2, ?sc3, ?sc4, ?sc5, ?sc6, ?sc7, ?sc8, ?sc9, ?sc10, ?sc11, ?sc12, ?sc13, ?sc14, ?sc15, ?sc16, ?sc17, ?sc18, ?sc19, ?sc20, ?sc21, ?sc22, ?sc23, ?sc24, ?sc25, ?sc26, ?sc27, ?sc28, ?sc29, ?sc30, ?sc31, ?sc32, ?sc33, ?sc34, ?sc35, ?sc36, ?sc37, ?sc38, ?sc39, ?sc40, ?sc41, ?sc42, trivial⟩ ?hEc
  case sc0 =>
    refine OpStepK.by_ ?_
    intro a x u ht hs hg hd K hK
    clear hd
    refine OpGoal.live (wanted_free (by kernel_rfl)) ?_
    have e9 : a.tmps[9]? = some (.pointer (some ⟨b9, 0, none⟩) : Value) := (hs 9).trans (by kernel_rfl)
    clear ht hs
    go_simp
    exact hK.out _ _ (Kp.refl _) rfl
  case sc1 =>
    refine OpStepK.by_ ?_
    intro a x u ht hs hg hd K hK
    have d0 : (x 0) = .pointer (some ⟨b9, 1, none⟩) := And.left hd
    clear hd
    refine OpGoal.live (wanted_free (by kernel_rfl)) ?_
    have e140 : a.tmps[140]? = some (.pointer (some ⟨b9, 1, none⟩) : Value) := (hs 140).trans (Eq.trans (b := some (x 0)) (by kernel_rfl) (by rw [d0]))
    clear d0
    clear ht hs
    have q0 := cell_kp hg hb9 R1
    go_simp
    exact hK.out _ _ (Kp.refl _) rfl
  case sc2 =>
    refine OpStepK.by_ ?_
    intro a x u ht hs hg hd K hK
    clear hd
    refine OpGoal.live (wanted_free (by kernel_rfl)) ?_
    have e20 : a.eval (Operand.tmp 20) = (.int .i64 (k : Int) : Value) := (ht 20).trans (by kernel_rfl)
    clear ht hs
    refine BigFrame.wp_move _ rfl ?_
    exact hK.out _ _ (Kp.refl _) e20
  case sc3 =>
    refine OpStepK.by_ ?_
    intro a x u ht hs hg hd K hK
    have d1 : (x 1) = .slice (some ⟨pb, po, none⟩) n c9 := And.left hd
    have d2 : (x 2) = .int .i64 (k : Int) := And.left (And.right hd)
    clear hd
    refine OpGoal.live (wanted_free (by kernel_rfl)) ?_
    have e141 : a.tmps[141]? = some (.slice (some ⟨pb, po, none⟩) n c9 : Value) := (hs 141).trans (Eq.trans (b := some (x 1)) (by kernel_rfl) (by rw [d1]))
    have e142 : a.tmps[142]? = some (.int .i64 (k : Int) : Value) := (hs 142).trans (Eq.trans (b := some (x 2)) (by kernel_rfl) (by rw [d2]))
    clear d1 d2
    clear ht hs
    go_simp
    exact hK.out _ _ (Kp.refl _) rfl
  case sc4 =>
    refine OpStepK.by_ ?_
    intro a x u ht hs hg hd K hK
    have d3 : (x 3) = .pointer (some ⟨pb, po + k * 7, none⟩) := And.left hd
    clear hd
    refine OpGoal.live (wanted_free (by kernel_rfl)) ?_
    have e143 : a.tmps[143]? = some (.pointer (some ⟨pb, po + k * 7, none⟩) : Value) := (hs 143).trans (Eq.trans (b := some (x 3)) (by kernel_rfl) (by rw [d3]))
    clear d3
    clear ht hs
    go_simp
    exact hK.out _ _ (Kp.refl _) rfl
  case sc5 =>
    refine OpStepK.by_ ?_
    intro a x u ht hs hg hd K hK
    have d4 : (x 4) = .pointer (some ⟨pb, po + k * 7, none⟩) := And.left hd
    clear hd
    refine OpGoal.live (wanted_free (by kernel_rfl)) ?_
    have e144 : a.tmps[144]? = some (.pointer (some ⟨pb, po + k * 7, none⟩) : Value) := (hs 144).trans (Eq.trans (b := some (x 4)) (by kernel_rfl) (by rw [d4]))
    clear d4
    clear ht hs
    have q0 := cell_kp hg hpb P0
    go_simp
    exact hK.out _ _ (Kp.refl _) rfl
  case sc6 =>
    refine OpStepK.by_ ?_
    intro a x u ht hs hg hd K hK
    clear hd
    refine OpGoal.live (wanted_free (by kernel_rfl)) ?_
    have e8 : a.tmps[8]? = some (.pointer (some ⟨bs, 0, none⟩) : Value) := (hs 8).trans (by kernel_rfl)
    clear ht hs
    go_simp
    exact hK.out _ _ (Kp.refl _) rfl
  case sc7 =>
    refine OpStepK.by_ ?_
    intro a x u ht hs hg hd K hK
    have d6 : (x 6) = .pointer (some ⟨bs, 1, none⟩) := And.left hd
    clear hd
    refine OpGoal.live (wanted_free (by kernel_rfl)) ?_
    have e146 : a.tmps[146]? = some (.pointer (some ⟨bs, 1, none⟩) : Value) := (hs 146).trans (Eq.trans (b := some (x 6)) (by kernel_rfl) (by rw [d6]))
    clear d6
    clear ht hs
    have q0 := cell_kp hg hbs S1
    go_simp
    exact hK.out _ _ (Kp.refl _) rfl
  case sc8 =>
    refine OpStepK.by_ ?_
    intro a x u ht hs hg hd K hK
    clear hd
    refine OpGoal.live (wanted_free (by kernel_rfl)) ?_
    have e20 : a.eval (Operand.tmp 20) = (.int .i64 (k : Int) : Value) := (ht 20).trans (by kernel_rfl)
    clear ht hs
    refine BigFrame.wp_move _ rfl ?_
    exact hK.out _ _ (Kp.refl _) e20
  case sc9 =>
    refine OpStepK.by_ ?_
    intro a x u ht hs hg hd K hK
    have d7 : (x 7) = .slice (some ⟨qb, qo, none⟩) n c8 := And.left hd
    have d8 : (x 8) = .int .i64 (k : Int) := And.left (And.right hd)
    clear hd
    refine OpGoal.live (wanted_free (by kernel_rfl)) ?_
    have e147 : a.tmps[147]? = some (.slice (some ⟨qb, qo, none⟩) n c8 : Value) := (hs 147).trans (Eq.trans (b := some (x 7)) (by kernel_rfl) (by rw [d7]))
    have e148 : a.tmps[148]? = some (.int .i64 (k : Int) : Value) := (hs 148).trans (Eq.trans (b := some (x 8)) (by kernel_rfl) (by rw [d8]))
    clear d7 d8
    clear ht hs
    go_simp
    exact hK.out _ _ (Kp.refl _) rfl
  case sc10 =>
    refine OpStepK.by_ ?_
    intro a x u ht hs hg hd K hK
    have d9 : (x 9) = .pointer (some ⟨qb, qo + k * 7, none⟩) := And.left hd
    clear hd
    refine OpGoal.live (wanted_free (by kernel_rfl)) ?_
    have e149 : a.tmps[149]? = some (.pointer (some ⟨qb, qo + k * 7, none⟩) : Value) := (hs 149).trans (Eq.trans (b := some (x 9)) (by kernel_rfl) (by rw [d9]))
    clear d9
    clear ht hs
    go_simp
    exact hK.out _ _ (Kp.refl _) rfl
  case sc11 =>
    refine OpStepK.by_ ?_
    intro a x u ht hs hg hd K hK
    have d10 : (x 10) = .pointer (some ⟨qb, qo + k * 7, none⟩) := And.left hd
    clear hd
    refine OpGoal.live (wanted_free (by kernel_rfl)) ?_
    have e150 : a.tmps[150]? = some (.pointer (some ⟨qb, qo + k * 7, none⟩) : Value) := (hs 150).trans (Eq.trans (b := some (x 10)) (by kernel_rfl) (by rw [d10]))
    clear d10
    clear ht hs
    have q0 := cell_kp hg hqb Q0
    go_simp
    exact hK.out _ _ (Kp.refl _) rfl
  case sc12 =>
    refine OpStepK.by_ ?_
    intro a x u ht hs hg hd K hK
    have d5 : (x 5) = .int .i64 sr := And.left hd
    have d11 : (x 11) = .int .i64 sr := And.left (And.right hd)
    clear hd
    refine OpGoal.live (wanted_free (by kernel_rfl)) ?_
    have e145 : a.tmps[145]? = some (.int .i64 sr : Value) := (hs 145).trans (Eq.trans (b := some (x 5)) (by kernel_rfl) (by rw [d5]))
    have e151 : a.tmps[151]? = some (.int .i64 sr : Value) := (hs 151).trans (Eq.trans (b := some (x 11)) (by kernel_rfl) (by rw [d11]))
    clear d5 d11
    clear ht hs
    go_simp
    exact hK.out _ _ (Kp.refl _) rfl
  case sc13 =>
    refine OpStepK.by_ ?_
    intro a x u ht hs hg hd K hK
    have d12 : (x 12) = .bool false := And.left hd
    clear hd
    refine OpGoal.live (wanted_free (by kernel_rfl)) ?_
    have e152 : a.eval (Operand.tmp 152) = (.bool false : Value) := (ht 152).trans (Eq.trans (b := x 12) (by kernel_rfl) d12)
    clear d12
    clear ht hs
    refine BigFrame.wp_move _ rfl ?_
    exact hK.out _ _ (Kp.refl _) e152
  case sc14 =>
    refine OpStepK.by_ ?_
    intro a x u ht hs hg hd K hK
    have d13 : (x 13) = .bool false := And.left hd
    clear hd
    refine OpGoal.live (wanted_yes (j := 13) (d := 153) (by kernel_rfl) (by kernel_rfl) ((hs 153).trans (Eq.trans (b := some (x 13)) (by kernel_rfl) (by rw [d13])))) ?_
    have e9 : a.tmps[9]? = some (.pointer (some ⟨b9, 0, none⟩) : Value) := (hs 9).trans (by kernel_rfl)
    clear d13
    clear ht hs
    go_simp
    exact hK.out _ _ (Kp.refl _) rfl
  case sc15 =>
    refine OpStepK.by_ ?_
    intro a x u ht hs hg hd K hK
    have d13 : (x 13) = .bool false := And.left hd
    have d14 : (x 14) = .pointer (some ⟨b9, 1, none⟩) := And.left (And.right hd)
    clear hd
    refine OpGoal.live (wanted_yes (j := 13) (d := 153) (by kernel_rfl) (by kernel_rfl) ((hs 153).trans (Eq.trans (b := some (x 13)) (by kernel_rfl) (by rw [d13])))) ?_
    have e154 : a.tmps[154]? = some (.pointer (some ⟨b9, 1, none⟩) : Value) := (hs 154).trans (Eq.trans (b := some (x 14)) (by kernel_rfl) (by rw [d14]))
    clear d13 d14
    clear ht hs
    have q0 := cell_kp hg hb9 R1
    go_simp
    exact hK.out _ _ (Kp.refl _) rfl
  case sc16 =>
    refine OpStepK.by_ ?_
    intro a x u ht hs hg hd K hK
    have d13 : (x 13) = .bool false := And.left hd
    clear hd
    refine OpGoal.live (wanted_yes (j := 13) (d := 153) (by kernel_rfl) (by kernel_rfl) ((hs 153).trans (Eq.trans (b := some (x 13)) (by kernel_rfl) (by rw [d13])))) ?_
    have e20 : a.eval (Operand.tmp 20) = (.int .i64 (k : Int) : Value) := (ht 20).trans (by kernel_rfl)
    clear d13
    clear ht hs
    refine BigFrame.wp_move _ rfl ?_
    exact hK.out _ _ (Kp.refl _) e20
  case sc17 =>
    refine OpStepK.by_ ?_
    intro a x u ht hs hg hd K hK
    have d13 : (x 13) = .bool false := And.left hd
    have d15 : (x 15) = .slice (some ⟨pb, po, none⟩) n c9 := And.left (And.right hd)
    have d16 : (x 16) = .int .i64 (k : Int) := And.left (And.right (And.right hd))
    clear hd
    refine OpGoal.live (wanted_yes (j := 13) (d := 153) (by kernel_rfl) (by kernel_rfl) ((hs 153).trans (Eq.trans (b := some (x 13)) (by kernel_rfl) (by rw [d13])))) ?_
    have e155 : a.tmps[155]? = some (.slice (some ⟨pb, po, none⟩) n c9 : Value) := (hs 155).trans (Eq.trans (b := some (x 15)) (by kernel_rfl) (by rw [d15]))
    have e156 : a.tmps[156]? = some (.int .i64 (k : Int) : Value) := (hs 156).trans (Eq.trans (b := some (x 16)) (by kernel_rfl) (by rw [d16]))
    clear d13 d15 d16
    clear ht hs
    go_simp
    exact hK.out _ _ (Kp.refl _) rfl
  case sc18 =>
    refine OpStepK.by_ ?_
    intro a x u ht hs hg hd K hK
    have d13 : (x 13) = .bool false := And.left hd
    have d17 : (x 17) = .pointer (some ⟨pb, po + k * 7, none⟩) := And.left (And.right hd)
    clear hd
    refine OpGoal.live (wanted_yes (j := 13) (d := 153) (by kernel_rfl) (by kernel_rfl) ((hs 153).trans (Eq.trans (b := some (x 13)) (by kernel_rfl) (by rw [d13])))) ?_
    have e157 : a.tmps[157]? = some (.pointer (some ⟨pb, po + k * 7, none⟩) : Value) := (hs 157).trans (Eq.trans (b := some (x 17)) (by kernel_rfl) (by rw [d17]))
    clear d13 d17
    clear ht hs
    go_simp
    exact hK.out _ _ (Kp.refl _) rfl
  case sc19 =>
    refine OpStepK.by_ ?_
    intro a x u ht hs hg hd K hK
    have d13 : (x 13) = .bool false := And.left hd
    have d18 : (x 18) = .pointer (some ⟨pb, po + k * 7 + 5, none⟩) := And.left (And.right hd)
    clear hd
    refine OpGoal.live (wanted_yes (j := 13) (d := 153) (by kernel_rfl) (by kernel_rfl) ((hs 153).trans (Eq.trans (b := some (x 13)) (by kernel_rfl) (by rw [d13])))) ?_
    have e158 : a.tmps[158]? = some (.pointer (some ⟨pb, po + k * 7 + 5, none⟩) : Value) := (hs 158).trans (Eq.trans (b := some (x 18)) (by kernel_rfl) (by rw [d18]))
    clear d13 d18
    clear ht hs
    have q0 := cell_kp hg hpb P5
    go_simp
    exact hK.out _ _ (Kp.refl _) rfl
  case sc20 =>
    refine OpStepK.by_ ?_
    intro a x u ht hs hg hd K hK
    have d13 : (x 13) = .bool false := And.left hd
    clear hd
    refine OpGoal.live (wanted_yes (j := 13) (d := 153) (by kernel_rfl) (by kernel_rfl) ((hs 153).trans (Eq.trans (b := some (x 13)) (by kernel_rfl) (by rw [d13])))) ?_
    have e8 : a.tmps[8]? = some (.pointer (some ⟨bs, 0, none⟩) : Value) := (hs 8).trans (by kernel_rfl)
    clear d13
    clear ht hs
    go_simp
    exact hK.out _ _ (Kp.refl _) rfl
  case sc21 =>
    refine OpStepK.by_ ?_
    intro a x u ht hs hg hd K hK
    have d13 : (x 13) = .bool false := And.left hd
    have d20 : (x 20) = .pointer (some ⟨bs, 1, none⟩) := And.left (And.right hd)
    clear hd
    refine OpGoal.live (wanted_yes (j := 13) (d := 153) (by kernel_rfl) (by kernel_rfl) ((hs 153).trans (Eq.trans (b := some (x 13)) (by kernel_rfl) (by rw [d13])))) ?_
    have e160 : a.tmps[160]? = some (.pointer (some ⟨bs, 1, none⟩) : Value) := (hs 160).trans (Eq.trans (b := some (x 20)) (by kernel_rfl) (by rw [d20]))
    clear d13 d20
    clear ht hs
    have q0 := cell_kp hg hbs S1
    go_simp
    exact hK.out _ _ (Kp.refl _) rfl
  case sc22 =>
    refine OpStepK.by_ ?_
    intro a x u ht hs hg hd K hK
    have d13 : (x 13) = .bool false := And.left hd
    clear hd
    refine OpGoal.live (wanted_yes (j := 13) (d := 153) (by kernel_rfl) (by kernel_rfl) ((hs 153).trans (Eq.trans (b := some (x 13)) (by kernel_rfl) (by rw [d13])))) ?_
    have e20 : a.eval (Operand.tmp 20) = (.int .i64 (k : Int) : Value) := (ht 20).trans (by kernel_rfl)
    clear d13
    clear ht hs
    refine BigFrame.wp_move _ rfl ?_
    exact hK.out _ _ (Kp.refl _) e20
  case sc23 =>
    refine OpStepK.by_ ?_
    intro a x u ht hs hg hd K hK
    have d13 : (x 13) = .bool false := And.left hd
    have d21 : (x 21) = .slice (some ⟨qb, qo, none⟩) n c8 := And.left (And.right hd)
    have d22 : (x 22) = .int .i64 (k : Int) := And.left (And.right (And.right hd))
    clear hd
    refine OpGoal.live (wanted_yes (j := 13) (d := 153) (by kernel_rfl) (by kernel_rfl) ((hs 153).trans (Eq.trans (b := some (x 13)) (by kernel_rfl) (by rw [d13])))) ?_
    have e161 : a.tmps[161]? = some (.slice (some ⟨qb, qo, none⟩) n c8 : Value) := (hs 161).trans (Eq.trans (b := some (x 21)) (by kernel_rfl) (by rw [d21]))
    have e162 : a.tmps[162]? = some (.int .i64 (k : Int) : Value) := (hs 162).trans (Eq.trans (b := some (x 22)) (by kernel_rfl) (by rw [d22]))
    clear d13 d21 d22
    clear ht hs
    go_simp
    exact hK.out _ _ (Kp.refl _) rfl
  case sc24 =>
    refine OpStepK.by_ ?_
    intro a x u ht hs hg hd K hK
    have d13 : (x 13) = .bool false := And.left hd
    have d23 : (x 23) = .pointer (some ⟨qb, qo + k * 7, none⟩) := And.left (And.right hd)
    clear hd
    refine OpGoal.live (wanted_yes (j := 13) (d := 153) (by kernel_rfl) (by kernel_rfl) ((hs 153).trans (Eq.trans (b := some (x 13)) (by kernel_rfl) (by rw [d13])))) ?_
    have e163 : a.tmps[163]? = some (.pointer (some ⟨qb, qo + k * 7, none⟩) : Value) := (hs 163).trans (Eq.trans (b := some (x 23)) (by kernel_rfl) (by rw [d23]))
    clear d13 d23
    clear ht hs
    go_simp
    exact hK.out _ _ (Kp.refl _) rfl
  case sc25 =>
    refine OpStepK.by_ ?_
    intro a x u ht hs hg hd K hK
    have d13 : (x 13) = .bool false := And.left hd
    have d24 : (x 24) = .pointer (some ⟨qb, qo + k * 7 + 5, none⟩) := And.left (And.right hd)
    clear hd
    refine OpGoal.live (wanted_yes (j := 13) (d := 153) (by kernel_rfl) (by kernel_rfl) ((hs 153).trans (Eq.trans (b := some (x 13)) (by kernel_rfl) (by rw [d13])))) ?_
    have e164 : a.tmps[164]? = some (.pointer (some ⟨qb, qo + k * 7 + 5, none⟩) : Value) := (hs 164).trans (Eq.trans (b := some (x 24)) (by kernel_rfl) (by rw [d24]))
    clear d13 d24
    clear ht hs
    have q0 := cell_kp hg hqb Q5
    go_simp
    exact hK.out _ _ (Kp.refl _) rfl
  case sc26 =>
    refine OpStepK.by_ ?_
    intro a x u ht hs hg hd K hK
    have d13 : (x 13) = .bool false := And.left hd
    have d19 : (x 19) = .bool r := And.left (And.right hd)
    have d25 : (x 25) = .bool r := And.left (And.right (And.right hd))
    clear hd
    refine OpGoal.live (wanted_yes (j := 13) (d := 153) (by kernel_rfl) (by kernel_rfl) ((hs 153).trans (Eq.trans (b := some (x 13)) (by kernel_rfl) (by rw [d13])))) ?_
    have e159 : a.tmps[159]? = some (.bool r : Value) := (hs 159).trans (Eq.trans (b := some (x 19)) (by kernel_rfl) (by rw [d19]))
    have e165 : a.tmps[165]? = some (.bool r : Value) := (hs 165).trans (Eq.trans (b := some (x 25)) (by kernel_rfl) (by rw [d25]))
    clear d13 d19 d25
    clear ht hs
    go_simp
    exact hK.out _ _ (Kp.refl _) rfl
  case sc27 =>
    refine OpStepK.by_ ?_
    intro a x u ht hs hg hd K hK
    have d13 : (x 13) = .bool false := And.left hd
    have d26 : (x 26) = .bool false := And.left (And.right hd)
    clear hd
    refine OpGoal.live (wanted_free (by kernel_rfl)) ?_
    have e153 : a.tmps[153]? = some (.bool false : Value) := (hs 153).trans (Eq.trans (b := some (x 13)) (by kernel_rfl) (by rw [d13]))
    have e166 : a.tmps[166]? = some (.bool false : Value) := (hs 166).trans (Eq.trans (b := some (x 26)) (by kernel_rfl) (by rw [d26]))
    clear d13 d26
    clear ht hs
    go_simp
    exact hK.out _ _ (Kp.refl _) rfl
  case sc28 =>
    refine OpStepK.by_ ?_
    intro a x u ht hs hg hd K hK
    have d27 : (x 27) = .bool false := And.left hd
    clear hd
    refine OpGoal.live (wanted_free (by kernel_rfl)) ?_
    have e167 : a.eval (Operand.tmp 167) = (.bool false : Value) := (ht 167).trans (Eq.trans (b := x 27) (by kernel_rfl) d27)
    clear d27
    clear ht hs
    refine BigFrame.wp_move _ rfl ?_
    exact hK.out _ _ (Kp.refl _) e167
  case sc29 =>
    refine OpStepK.by_ ?_
    intro a x u ht hs hg hd K hK
    have d28 : (x 28) = .bool false := And.left hd
    clear hd
    refine OpGoal.live (wanted_yes (j := 28) (d := 168) (by kernel_rfl) (by kernel_rfl) ((hs 168).trans (Eq.trans (b := some (x 28)) (by kernel_rfl) (by rw [d28])))) ?_
    have e9 : a.tmps[9]? = some (.pointer (some ⟨b9, 0, none⟩) : Value) := (hs 9).trans (by kernel_rfl)
    clear d28
    clear ht hs
    go_simp
    exact hK.out _ _ (Kp.refl _) rfl
  case sc30 =>
    refine OpStepK.by_ ?_
    intro a x u ht hs hg hd K hK
    have d28 : (x 28) = .bool false := And.left hd
    have d29 : (x 29) = .pointer (some ⟨b9, 1, none⟩) := And.left (And.right hd)
    clear hd
    refine OpGoal.live (wanted_yes (j := 28) (d := 168) (by kernel_rfl) (by kernel_rfl) ((hs 168).trans (Eq.trans (b := some (x 28)) (by kernel_rfl) (by rw [d28])))) ?_
    have e169 : a.tmps[169]? = some (.pointer (some ⟨b9, 1, none⟩) : Value) := (hs 169).trans (Eq.trans (b := some (x 29)) (by kernel_rfl) (by rw [d29]))
    clear d28 d29
    clear ht hs
    have q0 := cell_kp hg hb9 R1
    go_simp
    exact hK.out _ _ (Kp.refl _) rfl
  case sc31 =>
    refine OpStepK.by_ ?_
    intro a x u ht hs hg hd K hK
    have d28 : (x 28) = .bool false := And.left hd
    clear hd
    refine OpGoal.live (wanted_yes (j := 28) (d := 168) (by kernel_rfl) (by kernel_rfl) ((hs 168).trans (Eq.trans (b := some (x 28)) (by kernel_rfl) (by rw [d28])))) ?_
    have e20 : a.eval (Operand.tmp 20) = (.int .i64 (k : Int) : Value) := (ht 20).trans (by kernel_rfl)
    clear d28
    clear ht hs
    refine BigFrame.wp_move _ rfl ?_
    exact hK.out _ _ (Kp.refl _) e20
  case sc32 =>
    refine OpStepK.by_ ?_
    intro a x u ht hs hg hd K hK
    have d28 : (x 28) = .bool false := And.left hd
    have d30 : (x 30) = .slice (some ⟨pb, po, none⟩) n c9 := And.left (And.right hd)
    have d31 : (x 31) = .int .i64 (k : Int) := And.left (And.right (And.right hd))
    clear hd
    refine OpGoal.live (wanted_yes (j := 28) (d := 168) (by kernel_rfl) (by kernel_rfl) ((hs 168).trans (Eq.trans (b := some (x 28)) (by kernel_rfl) (by rw [d28])))) ?_
    have e170 : a.tmps[170]? = some (.slice (some ⟨pb, po, none⟩) n c9 : Value) := (hs 170).trans (Eq.trans (b := some (x 30)) (by kernel_rfl) (by rw [d30]))
    have e171 : a.tmps[171]? = some (.int .i64 (k : Int) : Value) := (hs 171).trans (Eq.trans (b := some (x 31)) (by kernel_rfl) (by rw [d31]))
    clear d28 d30 d31
    clear ht hs
    go_simp
    exact hK.out _ _ (Kp.refl _) rfl
  case sc33 =>
    refine OpStepK.by_ ?_
    intro a x u ht hs hg hd K hK
    have d28 : (x 28) = .bool false := And.left hd
    have d32 : (x 32) = .pointer (some ⟨pb, po + k * 7, none⟩) := And.left (And.right hd)
    clear hd
    refine OpGoal.live (wanted_yes (j := 28) (d := 168) (by kernel_rfl) (by kernel_rfl) ((hs 168).trans (Eq.trans (b := some (x 28)) (by kernel_rfl) (by rw [d28])))) ?_
    have e172 : a.tmps[172]? = some (.pointer (some ⟨pb, po + k * 7, none⟩) : Value) := (hs 172).trans (Eq.trans (b := some (x 32)) (by kernel_rfl) (by rw [d32]))
    clear d28 d32
    clear ht hs
    go_simp
    exact hK.out _ _ (Kp.refl _) rfl
  case sc34 =>
    refine OpStepK.by_ ?_
    intro a x u ht hs hg hd K hK
    have d28 : (x 28) = .bool false := And.left hd
    have d33 : (x 33) = .pointer (some ⟨pb, po + k * 7 + 6, none⟩) := And.left (And.right hd)
    clear hd
    refine OpGoal.live (wanted_yes (j := 28) (d := 168) (by kernel_rfl) (by kernel_rfl) ((hs 168).trans (Eq.trans (b := some (x 28)) (by kernel_rfl) (by rw [d28])))) ?_
    have e173 : a.tmps[173]? = some (.pointer (some ⟨pb, po + k * 7 + 6, none⟩) : Value) := (hs 173).trans (Eq.trans (b := some (x 33)) (by kernel_rfl) (by rw [d33]))
    clear d28 d33
    clear ht hs
    have q0 := cell_kp hg hpb P6
    go_simp
    exact hK.out _ _ (Kp.refl _) rfl
  case sc35 =>
    refine OpStepK.by_ ?_
    intro a x u ht hs hg hd K hK
    have d28 : (x 28) = .bool false := And.left hd
    clear hd
    refine OpGoal.live (wanted_yes (j := 28) (d := 168) (by kernel_rfl) (by kernel_rfl) ((hs 168).trans (Eq.trans (b := some (x 28)) (by kernel_rfl) (by rw [d28])))) ?_
    have e8 : a.tmps[8]? = some (.pointer (some ⟨bs, 0, none⟩) : Value) := (hs 8).trans (by kernel_rfl)
    clear d28
    clear ht hs
    go_simp
    exact hK.out _ _ (Kp.refl _) rfl
  case sc36 =>
    refine OpStepK.by_ ?_
    intro a x u ht hs hg hd K hK
    have d28 : (x 28) = .bool false := And.left hd
    have d35 : (x 35) = .pointer (some ⟨bs, 1, none⟩) := And.left (And.right hd)
    clear hd
    refine OpGoal.live (wanted_yes (j := 28) (d := 168) (by kernel_rfl) (by kernel_rfl) ((hs 168).trans (Eq.trans (b := some (x 28)) (by kernel_rfl) (by rw [d28])))) ?_
    have e175 : a.tmps[175]? = some (.pointer (some ⟨bs, 1, none⟩) : Value) := (hs 175).trans (Eq.trans (b := some (x 35)) (by kernel_rfl) (by rw [d35]))
    clear d28 d35
    clear ht hs
    have q0 := cell_kp hg hbs S1
    go_simp
    exact hK.out _ _ (Kp.refl _) rfl
  case sc37 =>
    refine OpStepK.by_ ?_
    intro a x u ht hs hg hd K hK
    have d28 : (x 28) = .bool false := And.left hd
    clear hd
    refine OpGoal.live (wanted_yes (j := 28) (d := 168) (by kernel_rfl) (by kernel_rfl) ((hs 168).trans (Eq.trans (b := some (x 28)) (by kernel_rfl) (by rw [d28])))) ?_
    have e20 : a.eval (Operand.tmp 20) = (.int .i64 (k : Int) : Value) := (ht 20).trans (by kernel_rfl)
    clear d28
    clear ht hs
    refine BigFrame.wp_move _ rfl ?_
    exact hK.out _ _ (Kp.refl _) e20
  case sc38 =>
    refine OpStepK.by_ ?_
    intro a x u ht hs hg hd K hK
    have d28 : (x 28) = .bool false := And.left hd
    have d36 : (x 36) = .slice (some ⟨qb, qo, none⟩) n c8 := And.left (And.right hd)
    have d37 : (x 37) = .int .i64 (k : Int) := And.left (And.right (And.right hd))
    clear hd
    refine OpGoal.live (wanted_yes (j := 28) (d := 168) (by kernel_rfl) (by kernel_rfl) ((hs 168).trans (Eq.trans (b := some (x 28)) (by kernel_rfl) (by rw [d28])))) ?_
    have e176 : a.tmps[176]? = some (.slice (some ⟨qb, qo, none⟩) n c8 : Value) := (hs 176).trans (Eq.trans (b := some (x 36)) (by kernel_rfl) (by rw [d36]))
    have e177 : a.tmps[177]? = some (.int .i64 (k : Int) : Value) := (hs 177).trans (Eq.trans (b := some (x 37)) (by kernel_rfl) (by rw [d37]))
    clear d28 d36 d37
    clear ht hs
    go_simp
    exact hK.out _ _ (Kp.refl _) rfl
  case sc39 =>
    refine OpStepK.by_ ?_
    intro a x u ht hs hg hd K hK
    have d28 : (x 28) = .bool false := And.left hd
    have d38 : (x 38) = .pointer (some ⟨qb, qo + k * 7, none⟩) := And.left (And.right hd)
    clear hd
    refine OpGoal.live (wanted_yes (j := 28) (d := 168) (by kernel_rfl) (by kernel_rfl) ((hs 168).trans (Eq.trans (b := some (x 28)) (by kernel_rfl) (by rw [d28])))) ?_
    have e178 : a.tmps[178]? = some (.pointer (some ⟨qb, qo + k * 7, none⟩) : Value) := (hs 178).trans (Eq.trans (b := some (x 38)) (by kernel_rfl) (by rw [d38]))
    clear d28 d38
    clear ht hs
    go_simp
    exact hK.out _ _ (Kp.refl _) rfl
  case sc40 =>
    refine OpStepK.by_ ?_
    intro a x u ht hs hg hd K hK
    have d28 : (x 28) = .bool false := And.left hd
    have d39 : (x 39) = .pointer (some ⟨qb, qo + k * 7 + 6, none⟩) := And.left (And.right hd)
    clear hd
    refine OpGoal.live (wanted_yes (j := 28) (d := 168) (by kernel_rfl) (by kernel_rfl) ((hs 168).trans (Eq.trans (b := some (x 28)) (by kernel_rfl) (by rw [d28])))) ?_
    have e179 : a.tmps[179]? = some (.pointer (some ⟨qb, qo + k * 7 + 6, none⟩) : Value) := (hs 179).trans (Eq.trans (b := some (x 39)) (by kernel_rfl) (by rw [d39]))
    clear d28 d39
    clear ht hs
    have q0 := cell_kp hg hqb Q6
    go_simp
    exact hK.out _ _ (Kp.refl _) rfl
  case sc41 =>
    refine OpStepK.by_ ?_
    intro a x u ht hs hg hd K hK
    have d28 : (x 28) = .bool false := And.left hd
    have d34 : (x 34) = .bool g := And.left (And.right hd)
    have d40 : (x 40) = .bool g := And.left (And.right (And.right hd))
    clear hd
    refine OpGoal.live (wanted_yes (j := 28) (d := 168) (by kernel_rfl) (by kernel_rfl) ((hs 168).trans (Eq.trans (b := some (x 28)) (by kernel_rfl) (by rw [d28])))) ?_
    have e174 : a.tmps[174]? = some (.bool g : Value) := (hs 174).trans (Eq.trans (b := some (x 34)) (by kernel_rfl) (by rw [d34]))
    have e180 : a.tmps[180]? = some (.bool g : Value) := (hs 180).trans (Eq.trans (b := some (x 40)) (by kernel_rfl) (by rw [d40]))
    clear d28 d34 d40
    clear ht hs
    go_simp
    exact hK.out _ _ (Kp.refl _) rfl
  case sc42 =>
    refine OpStepK.by_ ?_
    intro a x u ht hs hg hd K hK
    have d28 : (x 28) = .bool false := And.left hd
    have d41 : (x 41) = .bool false := And.left (And.right hd)
    clear hd
    refine OpGoal.live (wanted_free (by kernel_rfl)) ?_
    have e168 : a.tmps[168]? = some (.bool false : Value) := (hs 168).trans (Eq.trans (b := some (x 28)) (by kernel_rfl) (by rw [d28]))
    have e181 : a.tmps[181]? = some (.bool false : Value) := (hs 181).trans (Eq.trans (b := some (x 41)) (by kernel_rfl) (by rw [d41]))
    clear d28 d41
    clear ht hs
    go_simp
    exact hK.out _ _ (Kp.refl _) rfl
  intro x u hg he
  have d0 : (x 0) = .pointer (some ⟨b9, 1, none⟩) := And.left he
  have d1 : (x 1) = .slice (some ⟨pb, po, none⟩) n c9 := And.left (And.right he)
  have d2 : (x 2) = .int .i64 (k : Int) := And.left (And.right (And.right he))
  have d3 : (x 3) = .pointer (some ⟨pb, po + k * 7, none⟩) := And.left (And.right (And.right (And.right he)))
  have d4 : (x 4) = .pointer (some ⟨pb, po + k * 7, none⟩) := And.left (And.right (And.right (And.right (And.right he))))
  have d5 : (x 5) = .int .i64 sr := And.left (And.right (And.right (And.right (And.right (And.right he)))))
  have d6 : (x 6) = .pointer (some ⟨bs, 1, none⟩) := And.left (And.right (And.right (And.right (And.right (And.right (And.right he))))))
  have d7 : (x 7) = .slice (some ⟨qb, qo, none⟩) n c8 := And.left (And.right (And.right (And.right (And.right (And.right (And.right (And.right he)))))))
  have d8 : (x 8) = .int .i64 (k : Int) := And.left (And.right (And.right (And.right (And.right (And.right (And.right (And.right (And.right he))))))))
  have d9 : (x 9) = .pointer (some ⟨qb, qo + k * 7, none⟩) := And.left (And.right (And.right (And.right (And.right (And.right (And.right (And.right (And.right (And.right he)))))))))
  have d10 : (x 10) = .pointer (some ⟨qb, qo + k * 7, none⟩) := And.left (And.right (And.right (And.right (And.right (And.right (And.right (And.right (And.right (And.right (And.right he))))))))))
  have d11 : (x 11) = .int .i64 sr := And.left (And.right (And.right (And.right (And.right (And.right (And.right (And.right (And.right (And.right (And.right (And.right he)))))))))))
  have d12 : (x 12) = .bool false := And.left (And.right (And.right (And.right (And.right (And.right (And.right (And.right (And.right (And.right (And.right (And.right (And.right he))))))))))))
  have d13 : (x 13) = .bool false := And.left (And.right (And.right (And.right (And.right (And.right (And.right (And.right (And.right (And.right (And.right (And.right (And.right (And.right he)))))))))))))
  have d14 : (x 14) = .pointer (some ⟨b9, 1, none⟩) := And.left (And.right (And.right (And.right (And.right (And.right (And.right (And.right (And.right (And.right (And.right (And.right (And.right (And.right (And.right he))))))))))))))
  have d15 : (x 15) = .slice (some ⟨pb, po, none⟩) n c9 := And.left (And.right (And.right (And.right (And.right (And.right (And.right (And.right (And.right (And.right (And.right (And.right (And.right (And.right (And.right (And.right he)))))))))))))))
  have d16 : (x 16) = .int .i64 (k : Int) := And.left (And.right (And.right (And.right (And.right (And.right (And.right (And.right (And.right (And.right (And.right (And.right (And.right (And.right (And.right (And.right (And.right he))))))))))))))))
  have d17 : (x 17) = .pointer (some ⟨pb, po + k * 7, none⟩) := And.left (And.right (And.right (And.right (And.right (And.right (And.right (And.right (And.right (And.right (And.right (And.right (And.right (And.right (And.right (And.right (And.right (And.right he)))))))))))))))))
  have d18 : (x 18) = .pointer (some ⟨pb, po + k * 7 + 5, none⟩) := And.left (And.right (And.right (And.right (And.right (And.right (And.right (And.right (And.right (And.right (And.right (And.right (And.right (And.right (And.right (And.right (And.right (And.right (And.right he))))))))))))))))))
  have d19 : (x 19) = .bool r := And.left (And.right (And.right (And.right (And.right (And.right (And.right (And.right (And.right (And.right (And.right (And.right (And.right (And.right (And.right (And.right (And.right (And.right (And.right (And.right he)))))))))))))))))))
  have d20 : (x 20) = .pointer (some ⟨bs, 1, none⟩) := And.left (And.right (And.right (And.right (And.right (And.right (And.right (And.right (And.right (And.right (And.right (And.right (And.right (And.right (And.right (And.right (And.right (And.right (And.right (And.right (And.right he))))))))))))))))))))
  have d21 : (x 21) = .slice (some ⟨qb, qo, none⟩) n c8 := And.left (And.right (And.right (And.right (And.right (And.right (And.right (And.right (And.right (And.right (And.right (And.right (And.right (And.right (And.right (And.right (And.right (And.right (And.right (And.right (And.right (And.right he)))))))))))))))))))))
  have d22 : (x 22) = .int .i64 (k : Int) := And.left (And.right (And.right (And.right (And.right (And.right (And.right (And.right (And.right (And.right (And.right (And.right (And.right (And.right (And.right (And.right (And.right (And.right (And.right (And.right (And.right (And.right (And.right he))))))))))))))))))))))
  have d23 : (x 23) = .pointer (some ⟨qb, qo + k * 7, none⟩) := And.left (And.right (And.right (And.right (And.right (And.right (And.right (And.right (And.right (And.right (And.right (And.right (And.right (And.right (And.right (And.right (And.right (And.right (And.right (And.right (And.right (And.right (And.right (And.right he)))))))))))))))))))))))
  have d24 : (x 24) = .pointer (some ⟨qb, qo + k * 7 + 5, none⟩) := And.left (And.right (And.right (And.right (And.right (And.right (And.right (And.right (And.right (And.right (And.right (And.right (And.right (And.right (And.right (And.right (And.right (And.right (And.right (And.right (And.right (And.right (And.right (And.right (And.right he))))))))))))))))))))))))
  have d25 : (x 25) = .bool r := And.left (And.right (And.right (And.right (And.right (And.right (And.right (And.right (And.right (And.right (And.right (And.right (And.right (And.right (And.right (And.right (And.right (And.right (And.right (And.right (And.right (And.right (And.right (And.right (And.right (And.right he)))))))))))))))))))))))))
  have d26 : (x 26) = .bool false := And.left (And.right (And.right (And.right (And.right (And.right (And.right (And.right (And.right (And.right (And.right (And.right (And.right (And.right (And.right (And.right (And.right (And.right (And.right (And.right (And.right (And.right (And.right (And.right (And.right (And.right (And.right he))))))))))))))))))))))))))
  have d27 : (x 27) = .bool false := And.left (And.right (And.right (And.right (And.right (And.right (And.right (And.right (And.right (And.right (And.right (And.right (And.right (And.right (And.right (And.right (And.right (And.right (And.right (And.right (And.right (And.right (And.right (And.right (And.right (And.right (And.right (And.right he)))))))))))))))))))))))))))
  have d28 : (x 28) = .bool false := And.left (And.right (And.right (And.right (And.right (And.right (And.right (And.right (And.right (And.right (And.right (And.right (And.right (And.right (And.right (And.right (And.right (And.right (And.right (And.right (And.right (And.right (And.right (And.right (And.right (And.right (And.right (And.right (And.right he))))))))))))))))))))))))))))
  have d29 : (x 29) = .pointer (some ⟨b9, 1, none⟩) := And.left (And.right (And.right (And.right (And.right (And.right (And.right (And.right (And.right (And.right (And.right (And.right (And.right (And.right (And.right (And.right (And.right (And.right (And.right (And.right (And.right (And.right (And.right (And.right (And.right (And.right (And.right (And.right (And.right (And.right he)))))))))))))))))))))))))))))
  have d30 : (x 30) = .slice (some ⟨pb, po, none⟩) n c9 := And.left (And.right (And.right (And.right (And.right (And.right (And.right (And.right (And.right (And.right (And.right (And.right (And.right (And.right (And.right (And.right (And.right (And.right (And.right (And.right (And.right (And.right (And.right (And.right (And.right (And.right (And.right (And.right (And.right (And.right (And.right he))))))))))))))))))))))))))))))
  have d31 : (x 31) = .int .i64 (k : Int) := And.left (And.right (And.right (And.right (And.right (And.right (And.right (And.right (And.right (And.right (And.right (And.right (And.right (And.right (And.right (And.right (And.right (And.right (And.right (And.right (And.right (And.right (And.right (And.right (And.right (And.right (And.right (And.right (And.right (And.right (And.right (And.right he)))))))))))))))))))))))))))))))
  have d32 : (x 32) = .pointer (some ⟨pb, po + k * 7, none⟩) := And.left (And.right (And.right (And.right (And.right (And.right (And.right (And.right (And.right (And.right (And.right (And.right (And.right (And.right (And.right (And.right (And.right (And.right (And.right (And.right (And.right (And.right (And.right (And.right (And.right (And.right (And.right (And.right (And.right (And.right (And.right (And.right (And.right he))))))))))))))))))))))))))))))))
  have d33 : (x 33) = .pointer (some ⟨pb, po + k * 7 + 6, none⟩) := And.left (And.right (And.right (And.right (And.right (And.right (And.right (And.right (And.right (And.right (And.right (And.right (And.right (And.right (And.right (And.right (And.right (And.right (And.right (And.right (And.right (And.right (And.right (And.right (And.right (And.right (And.right (And.right (And.right (And.right (And.right (And.right (And.right (And.right he)))))))))))))))))))))))))))))))))
  have d34 : (x 34) = .bool g := And.left (And.right (And.right (And.right (And.right (And.right (And.right (And.right (And.right (And.right (And.right (And.right (And.right (And.right (And.right (And.right (And.right (And.right (And.right (And.right (And.right (And.right (And.right (And.right (And.right (And.right (And.right (And.right (And.right (And.right (And.right (And.right (And.right (And.right (And.right he))))))))))))))))))))))))))))))))))
  have d35 : (x 35) = .pointer (some ⟨bs, 1, none⟩) := And.left (And.right (And.right (And.right (And.right (And.right (And.right (And.right (And.right (And.right (And.right (And.right (And.right (And.right (And.right (And.right (And.right (And.right (And.right (And.right (And.right (And.right (And.right (And.right (And.right (And.right (And.right (And.right (And.right (And.right (And.right (And.right (And.right (And.right (And.right (And.right he)))))))))))))))))))))))))))))))))))
  have d36 : (x 36) = .slice (some ⟨qb, qo, none⟩) n c8 := And.left (And.right (And.right (And.right (And.right (And.right (And.right (And.right (And.right (And.right (And.right (And.right (And.right (And.right (And.right (And.right (And.right (And.right (And.right (And.right (And.right (And.right (And.right (And.right (And.right (And.right (And.right (And.right (And.right (And.right (And.right (And.right (And.right (And.right (And.right (And.right (And.right he))))))))))))))))))))))))))))))))))))
  have d37 : (x 37) = .int .i64 (k : Int) := And.left (And.right (And.right (And.right (And.right (And.right (And.right (And.right (And.right (And.right (And.right (And.right (And.right (And.right (And.right (And.right (And.right (And.right (And.right (And.right (And.right (And.right (And.right (And.right (And.right (And.right (And.right (And.right (And.right (And.right (And.right (And.right (And.right (And.right (And.right (And.right (And.right (And.right he)))))))))))))))))))))))))))))))))))))
  have d38 : (x 38) = .pointer (some ⟨qb, qo + k * 7, none⟩) := And.left (And.right (And.right (And.right (And.right (And.right (And.right (And.right (And.right (And.right (And.right (And.right (And.right (And.right (And.right (And.right (And.right (And.right (And.right (And.right (And.right (And.right (And.right (And.right (And.right (And.right (And.right (And.right (And.right (And.right (And.right (And.right (And.right (And.right (And.right (And.right (And.right (And.right (And.right he))))))))))))))))))))))))))))))))))))))
  have d39 : (x 39) = .pointer (some ⟨qb, qo + k * 7 + 6, none⟩) := And.left (And.right (And.right (And.right (And.right (And.right (And.right (And.right (And.right (And.right (And.right (And.right (And.right (And.right (And.right (And.right (And.right (And.right (And.right (And.right (And.right (And.right (And.right (And.right (And.right (And.right (And.right (And.right (And.right (And.right (And.right (And.right (And.right (And.right (And.right (And.right (And.right (And.right (And.right (And.right he)))))))))))))))))))))))))))))))))))))))
  have d40 : (x 40) = .bool g := And.left (And.right (And.right (And.right (And.right (And.right (And.right (And.right (And.right (And.right (And.right (And.right (And.right (And.right (And.right (And.right (And.right (And.right (And.right (And.right (And.right (And.right (And.right (And.right (And.right (And.right (And.right (And.right (And.right (And.right (And.right (And.right (And.right (And.right (And.right (And.right (And.right (And.right (And.right (And.right (And.right he))))))))))))))))))))))))))))))))))))))))
  have d41 : (x 41) = .bool false := And.left (And.right (And.right (And.right (And.right (And.right (And.right (And.right (And.right (And.right (And.right (And.right (And.right (And.right (And.right (And.right (And.right (And.right (And.right (And.right (And.right (And.right (And.right (And.right (And.right (And.right (And.right (And.right (And.right (And.right (And.right (And.right (And.right (And.right (And.right (And.right (And.right (And.right (And.right (And.right (And.right (And.right he)))))))))))))))))))))))))))))))))))))))))
  have d42 : (x 42) = .bool false := And.left (And.right (And.right (And.right (And.right (And.right (And.right (And.right (And.right (And.right (And.right (And.right (And.right (And.right (And.right (And.right (And.right (And.right (And.right (And.right (And.right (And.right (And.right (And.right (And.right (And.right (And.right (And.right (And.right (And.right (And.right (And.right (And.right (And.right (And.right (And.right (And.right (And.right (And.right (And.right (And.right (And.right (And.right he))))))))))))))))))))))))))))))))))))))))))
  clear he
  refine ⟨?_⟩
  simp only [putsFrom, Act.put, List.setIfInBounds_toArray, List.set_cons_zero, List.set_cons_succ, Nat.reduceAdd, d0, d1, d2, d3, d4, d5, d6, d7, d8, d9, d10, d11, d12, d13, d14, d15, d16, d17, d18, d19, d20, d21, d22, d23, d24, d25, d26, d27, d28, d29, d30, d31, d32, d33, d34, d35, d36, d37, d38, d39, d40, d41, d42]
  clear d0 d1 d2 d3 d4 d5 d6 d7 d8 d9 d10 d11 d12 d13 d14 d15 d16 d17 d18 d19 d20 d21 d22 d23 d24 d25 d26 d27 d28 d29 d30 d31 d32 d33 d34 d35 d36 d37 d38 d39 d40 d41 d42
  exact hE _ hg
end Go.Proofs.Ytiicdknmoakocaa
