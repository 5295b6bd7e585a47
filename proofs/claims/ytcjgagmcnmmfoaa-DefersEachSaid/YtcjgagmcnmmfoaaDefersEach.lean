/-
  The law DefersEach answers true for every text. No condition.
-/
import Derived.SizedLaws
import Derived.Deep.CondSized
import Derived.Test.YtcjgagmcnmmfoaaRows
import Derived.Test.YtcjgagmcnmmfoaaPk2
import Derived.Test.YtcjgagmcnmmfoaaPk11
set_option maxRecDepth 20000
set_option maxHeartbeats 16000000
set_option linter.unusedVariables false
set_option linter.unusedSimpArgs false
namespace Go.Proofs.Ytcjgagmcnmmfoaa.defersEach
open Go.ChangeShapes Go.WideShapes Go.ChangeAt Go.RowKit
open Go.ChangeMaps (open_string shut_string)

theorem own : ownKnob Try.prog.godebug = none := by kernel_rfl
theorem laidOut : laidOutB Try.prog = true := by kernel_rfl


open Pa
--NEWEACH
theorem e14pt {W : World} {Q : Exit → Act → World → Prop} {s0 s1 s2 s3 s4 s5 s6 s8 s9 s10 s11 s12 s14 s15 s16 s17 s18 s19 s20 s21 s22 s23 s24 s25 s26 s27 s28 s29 s30 s31 s32 s33 s34 s35 s36 s37 s38 s39 s40 s41 s42 s43 s44 s45 s46 s47 s48 s49 s50 s51 s52 s53 s54 s55 s56 s57 s58 s59 s60 s61 s62 s63 s64 s65 s66 s67 s68 s69 s70 s71 s72 s73 s74 s75 s76 s77 s78 s79 s80 s81 s82 s83 s84 s85 s86 s87 s88 s89 s90 s91 s92 s93 s94 s95 s96 s97 s98 s99 s100 s101 s102 s103 s104 s105 s106 s107 s108 s109 s110 s111 s112 s113 s114 s115 s116 s117 s118 s119 s120 s121 s122 s123 s124 s125 s126 s127 s128 s129 s130 s131 s132 s133 s134 s135 s136 s137 s138 s139 s140 s141 s142 s143 s144 s145 s146 s147 s148 s149 s150 s151 s152 s153 s154 s155 s156 s157 s158 s159 s160 s161 s162 s163 s164 s165 s166 s167 s168 s169 s170 s171 s172 s173 s174 s175 s176 s177 s178 s179 s180 s181 s182 s183 s184 s185 s186 s187 s188 s189 s190 s191 s192 : Value} {bp op c5 i z nd pn Pl sl c2 : Nat} {A2 : Option Addr} (hb : bp < W.heap.size) (x0 : W.cell? ⟨bp, op + i * 3, none⟩ = some (.int .i64 (pn : Int))) (x1 : W.cell? ⟨bp, op + i * 3 + 1, none⟩ = some (.slice A2 sl c2)) (x2 : W.cell? ⟨bp, op + i * 3 + 2, none⟩ = some (.bool true)) (i1 : (i : Int) < (Pl : Int)) (d : 0 < i) (d1 : IntKind.i64.wrap ((i : Int) - 1) = (z : Int)) (d2 : (z : Int) < (Pl : Int)) (d3 : W.cell? ⟨bp, op + z * 3, none⟩ = some (.int .i64 (nd : Int))) (d4 : ¬ (pn : Int) ≤ (nd : Int)) (d8 : ¬ (8 : Int) < (sl : Int))
  (hE : ∀ u, Kp W u → Q .normal { tmps := #[s0, s1, s2, s3, s4, s5, s6, .slice (some ⟨bp, op, none⟩) Pl c5, s8, s9, s10, s11, s12, .int .i64 (i : Int), s14, s15, s16, s17, s18, s19, s20, s21, s22, s23, s24, s25, s26, s27, s28, s29, s30, s31, s32, s33, s34, s35, s36, s37, s38, s39, s40, s41, s42, s43, s44, s45, s46, s47, s48, s49, s50, s51, s52, s53, s54, s55, s56, s57, s58, s59, s60, s61, s62, s63, s64, s65, .int .i64 (i : Int), .bool true, .bool true, .slice (some ⟨bp, op, none⟩) Pl c5, .int .i64 (i : Int), .int .i64 (z : Int), .pointer (some ⟨bp, op + z * 3, none⟩), .pointer (some ⟨bp, op + z * 3, none⟩), .int .i64 (nd : Int), .slice (some ⟨bp, op, none⟩) Pl c5, .int .i64 (i : Int), .pointer (some ⟨bp, op + i * 3, none⟩), .pointer (some ⟨bp, op + i * 3, none⟩), .int .i64 (pn : Int), .bool false, .bool false, .bool false, .slice (some ⟨bp, op, none⟩) Pl c5, .int .i64 (i : Int), .pointer (some ⟨bp, op + i * 3, none⟩), .pointer (some ⟨bp, op + i * 3 + 2, none⟩), .bool true, .bool true, .slice (some ⟨bp, op, none⟩) Pl c5, .int .i64 (i : Int), .pointer (some ⟨bp, op + i * 3, none⟩), .pointer (some ⟨bp, op + i * 3 + 1, none⟩), .slice A2 sl c2, .int .i64 (sl : Int), .bool false, .bool false, .bool false, s98, s99, s100, s101, s102, s103, s104, s105, s106, s107, s108, s109, s110, s111, s112, s113, s114, s115, s116, s117, s118, s119, s120, s121, s122, s123, s124, s125, s126, s127, s128, s129, s130, s131, s132, s133, s134, s135, s136, s137, s138, s139, s140, s141, s142, s143, s144, s145, s146, s147, s148, s149, s150, s151, s152, s153, s154, s155, s156, s157, s158, s159, s160, s161, s162, s163, s164, s165, s166, s167, s168, s169, s170, s171, s172, s173, s174, s175, s176, s177, s178, s179, s180, s181, s182, s183, s184, s185, s186, s187, s188, s189, s190, s191, s192], defers := [] } u) :
  (Code.region 14 (regArr Try.f3 14) true).wp Try.prog Q { tmps := #[s0, s1, s2, s3, s4, s5, s6, .slice (some ⟨bp, op, none⟩) Pl c5, s8, s9, s10, s11, s12, .int .i64 (i : Int), s14, s15, s16, s17, s18, s19, s20, s21, s22, s23, s24, s25, s26, s27, s28, s29, s30, s31, s32, s33, s34, s35, s36, s37, s38, s39, s40, s41, s42, s43, s44, s45, s46, s47, s48, s49, s50, s51, s52, s53, s54, s55, s56, s57, s58, s59, s60, s61, s62, s63, s64, s65, s66, s67, s68, s69, s70, s71, s72, s73, s74, s75, s76, s77, s78, s79, s80, s81, s82, s83, s84, s85, s86, s87, s88, s89, s90, s91, s92, s93, s94, s95, s96, s97, s98, s99, s100, s101, s102, s103, s104, s105, s106, s107, s108, s109, s110, s111, s112, s113, s114, s115, s116, s117, s118, s119, s120, s121, s122, s123, s124, s125, s126, s127, s128, s129, s130, s131, s132, s133, s134, s135, s136, s137, s138, s139, s140, s141, s142, s143, s144, s145, s146, s147, s148, s149, s150, s151, s152, s153, s154, s155, s156, s157, s158, s159, s160, s161, s162, s163, s164, s165, s166, s167, s168, s169, s170, s171, s172, s173, s174, s175, s176, s177, s178, s179, s180, s181, s182, s183, s184, s185, s186, s187, s188, s189, s190, s191, s192], defers := [] } W := by
 simp only [regArr, Try.f3, Option.map_some, Option.getD_some, regOf, if_true, if_false, List.append_nil, List.nil_append, List.toList_toArray, Nat.reduceEqDiff, reduceIte]
 refine wp_region_kp [[], [0], [1], [2], [2], [2, 4], [2, 3, 5], [2, 6], [2, 7], [2], [2], [2, 9, 10], [2, 11], [2, 12], [2, 8, 13], [2, 14], [15], [16], [16], [16, 17, 18], [16, 19], [16, 20], [16, 21], [22], [22], [22, 23, 24], [22, 25], [22, 26], [22, 27], [22, 28], [16, 22, 29], [16, 30]] (fun u => Kp W u)
  [eqV (.int .i64 (i : Int)), eqV (.bool true), eqV (.bool true), eqV (.slice (some ⟨bp, op, none⟩) Pl c5), eqV (.int .i64 (i : Int)), eqV (.int .i64 (z : Int)), eqV (.pointer (some ⟨bp, op + z * 3, none⟩)), eqV (.pointer (some ⟨bp, op + z * 3, none⟩)), eqV (.int .i64 (nd : Int)), eqV (.slice (some ⟨bp, op, none⟩) Pl c5), eqV (.int .i64 (i : Int)), eqV (.pointer (some ⟨bp, op + i * 3, none⟩)), eqV (.pointer (some ⟨bp, op + i * 3, none⟩)), eqV (.int .i64 (pn : Int)), eqV (.bool false), eqV (.bool false), eqV (.bool false), eqV (.slice (some ⟨bp, op, none⟩) Pl c5), eqV (.int .i64 (i : Int)), eqV (.pointer (some ⟨bp, op + i * 3, none⟩)), eqV (.pointer (some ⟨bp, op + i * 3 + 2, none⟩)), eqV (.bool true), eqV (.bool true), eqV (.slice (some ⟨bp, op, none⟩) Pl c5), eqV (.int .i64 (i : Int)), eqV (.pointer (some ⟨bp, op + i * 3, none⟩)), eqV (.pointer (some ⟨bp, op + i * 3 + 1, none⟩)), eqV (.slice A2 sl c2), eqV (.int .i64 (sl : Int)), eqV (.bool false), eqV (.bool false), eqV (.bool false)]
  (by kernel_rfl) (by kernel_rfl) (by kernel_rfl) (by kernel_rfl) ((Kp.refl _).drew) (fun _ _ hk h => h.trans hk) (by repeat' first | exact trivial | refine ⟨fun _ _ _ _ h => h, ?_⟩) ⟨?sb0, ?sb1, ?sb2, ?sb3, ?sb4, ?sb5, ?sb6, ?sb7, ?sb8, ?sb9, ?sb10, ?sb11, ?sb12, ?sb13, ?sb14, ?sb15, ?sb16, ?sb17, ?sb18, ?sb19, ?sb20, ?sb21, ?sb22, ?sb23, ?sb24, ?sb25, ?sb26, ?sb27, ?sb28, ?sb29, ?sb30, ?sb31, trivial⟩ ?hEb
 case sb0 => exact OpStepK.mv 13 (.int .i64 (i : Int)) (by kernel_rfl) (free_ (by kernel_rfl)) (fun _ _ _ => by kernel_rfl) (fun _ => rfl)
 case sb1 => exact OpStepK.op1 66 (.int .i64 (i : Int)) (free_ (by kernel_rfl)) (fun x _ h => Eq.trans (b := some (x 0)) (by kernel_rfl) (congrArg some h.1)) fun a u e66 hg K hK => (by go_simp; exact hK.out _ _ (Kp.refl _) rfl)
 case sb2 => exact OpStepK.mv 67 (.bool true) (by kernel_rfl) (free_ (by kernel_rfl)) (fun x _ h => Eq.trans (b := x 1) (by kernel_rfl) h.1) (fun _ => rfl)
 case sb3 | sb9 => exact OpStepK.mv 7 (.slice (some ⟨bp, op, none⟩) Pl c5) (by kernel_rfl) (yes_ 2 68 true (by kernel_rfl) (by kernel_rfl) (fun x _ h => Eq.trans (b := some (x 2)) (by kernel_rfl) (congrArg some h.1))) (fun _ _ _ => by kernel_rfl) (fun _ => rfl)
 case sb4 | sb10 => exact OpStepK.mv 13 (.int .i64 (i : Int)) (by kernel_rfl) (yes_ 2 68 true (by kernel_rfl) (by kernel_rfl) (fun x _ h => Eq.trans (b := some (x 2)) (by kernel_rfl) (congrArg some h.1))) (fun _ _ _ => by kernel_rfl) (fun _ => rfl)
 case sb5 => exact OpStepK.op1 70 (.int .i64 (i : Int)) (yes_ 2 68 true (by kernel_rfl) (by kernel_rfl) (fun x _ h => Eq.trans (b := some (x 2)) (by kernel_rfl) (congrArg some h.1))) (fun x _ h => Eq.trans (b := some (x 4)) (by kernel_rfl) (congrArg some h.2.1)) fun a u e70 hg K hK => (by go_simp; exact hK.out _ _ (Kp.refl _) rfl)
 case sb6 => exact OpStepK.op2 69 71 (.slice (some ⟨bp, op, none⟩) Pl c5) (.int .i64 (z : Int)) (yes_ 2 68 true (by kernel_rfl) (by kernel_rfl) (fun x _ h => Eq.trans (b := some (x 2)) (by kernel_rfl) (congrArg some h.1))) (fun x _ h => Eq.trans (b := some (x 3)) (by kernel_rfl) (congrArg some h.2.1)) (fun x _ h => Eq.trans (b := some (x 5)) (by kernel_rfl) (congrArg some h.2.2.1)) fun a u e69 e71 hg K hK => (by go_simp; exact hK.out _ _ (Kp.refl _) rfl)
 case sb7 => exact OpStepK.op1 72 (.pointer (some ⟨bp, op + z * 3, none⟩)) (yes_ 2 68 true (by kernel_rfl) (by kernel_rfl) (fun x _ h => Eq.trans (b := some (x 2)) (by kernel_rfl) (congrArg some h.1))) (fun x _ h => Eq.trans (b := some (x 6)) (by kernel_rfl) (congrArg some h.2.1)) fun a u e72 hg K hK => (by go_simp; exact hK.out _ _ (Kp.refl _) rfl)
 case sb11 => exact OpStepK.op2 75 76 (.slice (some ⟨bp, op, none⟩) Pl c5) (.int .i64 (i : Int)) (yes_ 2 68 true (by kernel_rfl) (by kernel_rfl) (fun x _ h => Eq.trans (b := some (x 2)) (by kernel_rfl) (congrArg some h.1))) (fun x _ h => Eq.trans (b := some (x 9)) (by kernel_rfl) (congrArg some h.2.1)) (fun x _ h => Eq.trans (b := some (x 10)) (by kernel_rfl) (congrArg some h.2.2.1)) fun a u e75 e76 hg K hK => (by go_simp; exact hK.out _ _ (Kp.refl _) rfl)
 case sb12 => exact OpStepK.op1 77 (.pointer (some ⟨bp, op + i * 3, none⟩)) (yes_ 2 68 true (by kernel_rfl) (by kernel_rfl) (fun x _ h => Eq.trans (b := some (x 2)) (by kernel_rfl) (congrArg some h.1))) (fun x _ h => Eq.trans (b := some (x 11)) (by kernel_rfl) (congrArg some h.2.1)) fun a u e77 hg K hK => (by go_simp; exact hK.out _ _ (Kp.refl _) rfl)
 case sb13 => exact OpStepK.op1 78 (.pointer (some ⟨bp, op + i * 3, none⟩)) (yes_ 2 68 true (by kernel_rfl) (by kernel_rfl) (fun x _ h => Eq.trans (b := some (x 2)) (by kernel_rfl) (congrArg some h.1))) (fun x _ h => Eq.trans (b := some (x 12)) (by kernel_rfl) (congrArg some h.2.1)) fun a u e78 hg K hK => (by have q0 := cell_kp hg hb x0; go_simp; exact hK.out _ _ (Kp.refl _) rfl)
 case sb14 => exact OpStepK.op2 74 79 (.int .i64 (nd : Int)) (.int .i64 (pn : Int)) (yes_ 2 68 true (by kernel_rfl) (by kernel_rfl) (fun x _ h => Eq.trans (b := some (x 2)) (by kernel_rfl) (congrArg some h.1))) (fun x _ h => Eq.trans (b := some (x 8)) (by kernel_rfl) (congrArg some h.2.1)) (fun x _ h => Eq.trans (b := some (x 13)) (by kernel_rfl) (congrArg some h.2.2.1)) fun a u e74 e79 hg K hK => (by go_simp; exact hK.out _ _ (Kp.refl _) rfl)
 case sb15 => exact OpStepK.op2 68 80 (.bool true) (.bool false) (free_ (by kernel_rfl)) (fun x _ h => Eq.trans (b := some (x 2)) (by kernel_rfl) (congrArg some h.1)) (fun x _ h => Eq.trans (b := some (x 14)) (by kernel_rfl) (congrArg some h.2.1)) fun a u e68 e80 hg K hK => (by go_simp; exact hK.out _ _ (Kp.refl _) rfl)
 case sb16 => exact OpStepK.mv 81 (.bool false) (by kernel_rfl) (free_ (by kernel_rfl)) (fun x _ h => Eq.trans (b := x 15) (by kernel_rfl) h.1) (fun _ => rfl)
 case sb17 => exact OpStepK.mv 7 (.slice (some ⟨bp, op, none⟩) Pl c5) (by kernel_rfl) (yes_ 16 82 false (by kernel_rfl) (by kernel_rfl) (fun x _ h => Eq.trans (b := some (x 16)) (by kernel_rfl) (congrArg some h.1))) (fun _ _ _ => by kernel_rfl) (fun _ => rfl)
 case sb18 => exact OpStepK.mv 13 (.int .i64 (i : Int)) (by kernel_rfl) (yes_ 16 82 false (by kernel_rfl) (by kernel_rfl) (fun x _ h => Eq.trans (b := some (x 16)) (by kernel_rfl) (congrArg some h.1))) (fun _ _ _ => by kernel_rfl) (fun _ => rfl)
 case sb19 => exact OpStepK.op2 83 84 (.slice (some ⟨bp, op, none⟩) Pl c5) (.int .i64 (i : Int)) (yes_ 16 82 false (by kernel_rfl) (by kernel_rfl) (fun x _ h => Eq.trans (b := some (x 16)) (by kernel_rfl) (congrArg some h.1))) (fun x _ h => Eq.trans (b := some (x 17)) (by kernel_rfl) (congrArg some h.2.1)) (fun x _ h => Eq.trans (b := some (x 18)) (by kernel_rfl) (congrArg some h.2.2.1)) fun a u e83 e84 hg K hK => (by go_simp; exact hK.out _ _ (Kp.refl _) rfl)
 case sb20 => exact OpStepK.op1 85 (.pointer (some ⟨bp, op + i * 3, none⟩)) (yes_ 16 82 false (by kernel_rfl) (by kernel_rfl) (fun x _ h => Eq.trans (b := some (x 16)) (by kernel_rfl) (congrArg some h.1))) (fun x _ h => Eq.trans (b := some (x 19)) (by kernel_rfl) (congrArg some h.2.1)) fun a u e85 hg K hK => (by go_simp; exact hK.out _ _ (Kp.refl _) rfl)
 case sb21 => exact OpStepK.op1 86 (.pointer (some ⟨bp, op + i * 3 + 2, none⟩)) (yes_ 16 82 false (by kernel_rfl) (by kernel_rfl) (fun x _ h => Eq.trans (b := some (x 16)) (by kernel_rfl) (congrArg some h.1))) (fun x _ h => Eq.trans (b := some (x 20)) (by kernel_rfl) (congrArg some h.2.1)) fun a u e86 hg K hK => (by have q0 := cell_kp hg hb x2; go_simp; exact hK.out _ _ (Kp.refl _) rfl)
 case sb22 => exact OpStepK.mv 87 (.bool true) (by kernel_rfl) (yes_ 16 82 false (by kernel_rfl) (by kernel_rfl) (fun x _ h => Eq.trans (b := some (x 16)) (by kernel_rfl) (congrArg some h.1))) (fun x _ h => Eq.trans (b := x 21) (by kernel_rfl) h.2.1) (fun _ => rfl)
 case sb23 => exact OpStepK.mv 7 (.slice (some ⟨bp, op, none⟩) Pl c5) (by kernel_rfl) (yes_ 22 88 true (by kernel_rfl) (by kernel_rfl) (fun x _ h => Eq.trans (b := some (x 22)) (by kernel_rfl) (congrArg some h.1))) (fun _ _ _ => by kernel_rfl) (fun _ => rfl)
 case sb24 => exact OpStepK.mv 13 (.int .i64 (i : Int)) (by kernel_rfl) (yes_ 22 88 true (by kernel_rfl) (by kernel_rfl) (fun x _ h => Eq.trans (b := some (x 22)) (by kernel_rfl) (congrArg some h.1))) (fun _ _ _ => by kernel_rfl) (fun _ => rfl)
 case sb25 => exact OpStepK.op2 89 90 (.slice (some ⟨bp, op, none⟩) Pl c5) (.int .i64 (i : Int)) (yes_ 22 88 true (by kernel_rfl) (by kernel_rfl) (fun x _ h => Eq.trans (b := some (x 22)) (by kernel_rfl) (congrArg some h.1))) (fun x _ h => Eq.trans (b := some (x 23)) (by kernel_rfl) (congrArg some h.2.1)) (fun x _ h => Eq.trans (b := some (x 24)) (by kernel_rfl) (congrArg some h.2.2.1)) fun a u e89 e90 hg K hK => (by go_simp; exact hK.out _ _ (Kp.refl _) rfl)
 case sb26 => exact OpStepK.op1 91 (.pointer (some ⟨bp, op + i * 3, none⟩)) (yes_ 22 88 true (by kernel_rfl) (by kernel_rfl) (fun x _ h => Eq.trans (b := some (x 22)) (by kernel_rfl) (congrArg some h.1))) (fun x _ h => Eq.trans (b := some (x 25)) (by kernel_rfl) (congrArg some h.2.1)) fun a u e91 hg K hK => (by go_simp; exact hK.out _ _ (Kp.refl _) rfl)
 case sb27 => exact OpStepK.op1 92 (.pointer (some ⟨bp, op + i * 3 + 1, none⟩)) (yes_ 22 88 true (by kernel_rfl) (by kernel_rfl) (fun x _ h => Eq.trans (b := some (x 22)) (by kernel_rfl) (congrArg some h.1))) (fun x _ h => Eq.trans (b := some (x 26)) (by kernel_rfl) (congrArg some h.2.1)) fun a u e92 hg K hK => (by have q0 := cell_kp hg hb x1; go_simp; exact hK.out _ _ (Kp.refl _) rfl)
 case sb28 => exact OpStepK.op1 93 (.slice A2 sl c2) (yes_ 22 88 true (by kernel_rfl) (by kernel_rfl) (fun x _ h => Eq.trans (b := some (x 22)) (by kernel_rfl) (congrArg some h.1))) (fun x _ h => Eq.trans (b := some (x 27)) (by kernel_rfl) (congrArg some h.2.1)) fun a u e93 hg K hK => (by go_simp; exact hK.out _ _ (Kp.refl _) rfl)
 case sb29 => exact OpStepK.op1 94 (.int .i64 (sl : Int)) (yes_ 22 88 true (by kernel_rfl) (by kernel_rfl) (fun x _ h => Eq.trans (b := some (x 22)) (by kernel_rfl) (congrArg some h.1))) (fun x _ h => Eq.trans (b := some (x 28)) (by kernel_rfl) (congrArg some h.2.1)) fun a u e94 hg K hK => (by go_simp; exact hK.out _ _ (Kp.refl _) rfl)
 case sb30 => exact OpStepK.op2 88 95 (.bool true) (.bool false) (yes_ 16 82 false (by kernel_rfl) (by kernel_rfl) (fun x _ h => Eq.trans (b := some (x 16)) (by kernel_rfl) (congrArg some h.1))) (fun x _ h => Eq.trans (b := some (x 22)) (by kernel_rfl) (congrArg some h.2.1)) (fun x _ h => Eq.trans (b := some (x 29)) (by kernel_rfl) (congrArg some h.2.2.1)) fun a u e88 e95 hg K hK => (by go_simp; exact hK.out _ _ (Kp.refl _) rfl)
 case sb31 => exact OpStepK.op2 82 96 (.bool false) (.bool false) (free_ (by kernel_rfl)) (fun x _ h => Eq.trans (b := some (x 16)) (by kernel_rfl) (congrArg some h.1)) (fun x _ h => Eq.trans (b := some (x 30)) (by kernel_rfl) (congrArg some h.2.1)) fun a u e82 e96 hg K hK => (by go_simp; exact hK.out _ _ (Kp.refl _) rfl)
 case sb8 =>
  refine OpStepK.by_ ?_
  intro a x u ht hs hg hd K hK
  have d2 : (x 2) = .bool true := hd.1
  have d7 : (x 7) = .pointer (some ⟨bp, op + z * 3, none⟩) := hd.2.1
  clear hd
  refine OpGoal.live (wanted_yes (j := 2) (d := 68) (by kernel_rfl) (by kernel_rfl) ((hs 68).trans (Eq.trans (b := some (x 2)) (by kernel_rfl) (by rw [d2])))) ?_
  have e73 : a.tmps[73]? = some (.pointer (some ⟨bp, op + z * 3, none⟩) : Value) := (hs 73).trans (Eq.trans (b := some (x 7)) (by kernel_rfl) (by rw [d7]))
  clear d2 d7
  clear ht hs
  have q0 := cell_kp hg hb d3
  go_simp
  exact hK.out _ _ (Kp.refl _) rfl
 intro x u hg he
 obtain ⟨d0, d1, d2, d3, d4, d5, d6, d7, d8, d9, d10, d11, d12, d13, d14, d15, d16, d17, d18, d19, d20, d21, d22, d23, d24, d25, d26, d27, d28, d29, d30, d31, -⟩ := he
 refine ⟨?_⟩
 simp only [putsFrom, Act.put, List.setIfInBounds_toArray, List.set_cons_zero, List.set_cons_succ, Nat.reduceAdd, d0, d1, d2, d3, d4, d5, d6, d7, d8, d9, d10, d11, d12, d13, d14, d15, d16, d17, d18, d19, d20, d21, d22, d23, d24, d25, d26, d27, d28, d29, d30, d31]
 clear d0 d1 d2 d3 d4 d5 d6 d7 d8 d9 d10 d11 d12 d13 d14 d15 d16 d17 d18 d19 d20 d21 d22 d23 d24 d25 d26 d27 d28 d29 d30 d31
 exact hE _ hg
theorem e14pf {W : World} {Q : Exit → Act → World → Prop} {s0 s1 s2 s3 s4 s5 s6 s8 s9 s10 s11 s12 s14 s15 s16 s17 s18 s19 s20 s21 s22 s23 s24 s25 s26 s27 s28 s29 s30 s31 s32 s33 s34 s35 s36 s37 s38 s39 s40 s41 s42 s43 s44 s45 s46 s47 s48 s49 s50 s51 s52 s53 s54 s55 s56 s57 s58 s59 s60 s61 s62 s63 s64 s65 s66 s67 s68 s69 s70 s71 s72 s73 s74 s75 s76 s77 s78 s79 s80 s81 s82 s83 s84 s85 s86 s87 s88 s89 s90 s91 s92 s93 s94 s95 s96 s97 s98 s99 s100 s101 s102 s103 s104 s105 s106 s107 s108 s109 s110 s111 s112 s113 s114 s115 s116 s117 s118 s119 s120 s121 s122 s123 s124 s125 s126 s127 s128 s129 s130 s131 s132 s133 s134 s135 s136 s137 s138 s139 s140 s141 s142 s143 s144 s145 s146 s147 s148 s149 s150 s151 s152 s153 s154 s155 s156 s157 s158 s159 s160 s161 s162 s163 s164 s165 s166 s167 s168 s169 s170 s171 s172 s173 s174 s175 s176 s177 s178 s179 s180 s181 s182 s183 s184 s185 s186 s187 s188 s189 s190 s191 s192 : Value} {bp op c5 i z nd pn Pl sl c2 : Nat} {A2 : Option Addr} (hb : bp < W.heap.size) (x0 : W.cell? ⟨bp, op + i * 3, none⟩ = some (.int .i64 (pn : Int))) (x1 : W.cell? ⟨bp, op + i * 3 + 1, none⟩ = some (.slice A2 sl c2)) (x2 : W.cell? ⟨bp, op + i * 3 + 2, none⟩ = some (.bool false)) (i1 : (i : Int) < (Pl : Int)) (d : 0 < i) (d1 : IntKind.i64.wrap ((i : Int) - 1) = (z : Int)) (d2 : (z : Int) < (Pl : Int)) (d3 : W.cell? ⟨bp, op + z * 3, none⟩ = some (.int .i64 (nd : Int))) (d4 : ¬ (pn : Int) ≤ (nd : Int))
  (hE : ∀ u, Kp W u → Q .normal { tmps := #[s0, s1, s2, s3, s4, s5, s6, .slice (some ⟨bp, op, none⟩) Pl c5, s8, s9, s10, s11, s12, .int .i64 (i : Int), s14, s15, s16, s17, s18, s19, s20, s21, s22, s23, s24, s25, s26, s27, s28, s29, s30, s31, s32, s33, s34, s35, s36, s37, s38, s39, s40, s41, s42, s43, s44, s45, s46, s47, s48, s49, s50, s51, s52, s53, s54, s55, s56, s57, s58, s59, s60, s61, s62, s63, s64, s65, .int .i64 (i : Int), .bool true, .bool true, .slice (some ⟨bp, op, none⟩) Pl c5, .int .i64 (i : Int), .int .i64 (z : Int), .pointer (some ⟨bp, op + z * 3, none⟩), .pointer (some ⟨bp, op + z * 3, none⟩), .int .i64 (nd : Int), .slice (some ⟨bp, op, none⟩) Pl c5, .int .i64 (i : Int), .pointer (some ⟨bp, op + i * 3, none⟩), .pointer (some ⟨bp, op + i * 3, none⟩), .int .i64 (pn : Int), .bool false, .bool false, .bool false, .slice (some ⟨bp, op, none⟩) Pl c5, .int .i64 (i : Int), .pointer (some ⟨bp, op + i * 3, none⟩), .pointer (some ⟨bp, op + i * 3 + 2, none⟩), .bool false, .bool false, undef, undef, undef, undef, undef, undef, undef, .bool false, .bool false, s98, s99, s100, s101, s102, s103, s104, s105, s106, s107, s108, s109, s110, s111, s112, s113, s114, s115, s116, s117, s118, s119, s120, s121, s122, s123, s124, s125, s126, s127, s128, s129, s130, s131, s132, s133, s134, s135, s136, s137, s138, s139, s140, s141, s142, s143, s144, s145, s146, s147, s148, s149, s150, s151, s152, s153, s154, s155, s156, s157, s158, s159, s160, s161, s162, s163, s164, s165, s166, s167, s168, s169, s170, s171, s172, s173, s174, s175, s176, s177, s178, s179, s180, s181, s182, s183, s184, s185, s186, s187, s188, s189, s190, s191, s192], defers := [] } u) :
  (Code.region 14 (regArr Try.f3 14) true).wp Try.prog Q { tmps := #[s0, s1, s2, s3, s4, s5, s6, .slice (some ⟨bp, op, none⟩) Pl c5, s8, s9, s10, s11, s12, .int .i64 (i : Int), s14, s15, s16, s17, s18, s19, s20, s21, s22, s23, s24, s25, s26, s27, s28, s29, s30, s31, s32, s33, s34, s35, s36, s37, s38, s39, s40, s41, s42, s43, s44, s45, s46, s47, s48, s49, s50, s51, s52, s53, s54, s55, s56, s57, s58, s59, s60, s61, s62, s63, s64, s65, s66, s67, s68, s69, s70, s71, s72, s73, s74, s75, s76, s77, s78, s79, s80, s81, s82, s83, s84, s85, s86, s87, s88, s89, s90, s91, s92, s93, s94, s95, s96, s97, s98, s99, s100, s101, s102, s103, s104, s105, s106, s107, s108, s109, s110, s111, s112, s113, s114, s115, s116, s117, s118, s119, s120, s121, s122, s123, s124, s125, s126, s127, s128, s129, s130, s131, s132, s133, s134, s135, s136, s137, s138, s139, s140, s141, s142, s143, s144, s145, s146, s147, s148, s149, s150, s151, s152, s153, s154, s155, s156, s157, s158, s159, s160, s161, s162, s163, s164, s165, s166, s167, s168, s169, s170, s171, s172, s173, s174, s175, s176, s177, s178, s179, s180, s181, s182, s183, s184, s185, s186, s187, s188, s189, s190, s191, s192], defers := [] } W := by
 simp only [regArr, Try.f3, Option.map_some, Option.getD_some, regOf, if_true, if_false, List.append_nil, List.nil_append, List.toList_toArray, Nat.reduceEqDiff, reduceIte]
 refine wp_region_kp [[], [0], [1], [2], [2], [2, 4], [2, 3, 5], [2, 6], [2, 7], [2], [2], [2, 9, 10], [2, 11], [2, 12], [2, 8, 13], [2, 14], [15], [16], [16], [16, 17, 18], [16, 19], [16, 20], [16, 21], [22], [22], [22, 23, 24], [22, 25], [22, 26], [22, 27], [22, 28], [16, 22, 29], [16, 30]] (fun u => Kp W u)
  [eqV (.int .i64 (i : Int)), eqV (.bool true), eqV (.bool true), eqV (.slice (some ⟨bp, op, none⟩) Pl c5), eqV (.int .i64 (i : Int)), eqV (.int .i64 (z : Int)), eqV (.pointer (some ⟨bp, op + z * 3, none⟩)), eqV (.pointer (some ⟨bp, op + z * 3, none⟩)), eqV (.int .i64 (nd : Int)), eqV (.slice (some ⟨bp, op, none⟩) Pl c5), eqV (.int .i64 (i : Int)), eqV (.pointer (some ⟨bp, op + i * 3, none⟩)), eqV (.pointer (some ⟨bp, op + i * 3, none⟩)), eqV (.int .i64 (pn : Int)), eqV (.bool false), eqV (.bool false), eqV (.bool false), eqV (.slice (some ⟨bp, op, none⟩) Pl c5), eqV (.int .i64 (i : Int)), eqV (.pointer (some ⟨bp, op + i * 3, none⟩)), eqV (.pointer (some ⟨bp, op + i * 3 + 2, none⟩)), eqV (.bool false), eqV (.bool false), eqV (undef), eqV (undef), eqV (undef), eqV (undef), eqV (undef), eqV (undef), eqV (undef), eqV (.bool false), eqV (.bool false)]
  (by kernel_rfl) (by kernel_rfl) (by kernel_rfl) (by kernel_rfl) ((Kp.refl _).drew) (fun _ _ hk h => h.trans hk) (by repeat' first | exact trivial | refine ⟨fun _ _ _ _ h => h, ?_⟩) ⟨?sc0, ?sc1, ?sc2, ?sc3, ?sc4, ?sc5, ?sc6, ?sc7, ?sc8, ?sc9, ?sc10, ?sc11, ?sc12, ?sc13, ?sc14, ?sc15, ?sc16, ?sc17, ?sc18, ?sc19, ?sc20, ?sc21, ?sc22, ?sc23, ?sc24, ?sc25, ?sc26, ?sc27, ?sc28, ?sc29, ?sc30, ?sc31, trivial⟩ ?hEc
 case sc0 => exact OpStepK.mv 13 (.int .i64 (i : Int)) (by kernel_rfl) (free_ (by kernel_rfl)) (fun _ _ _ => by kernel_rfl) (fun _ => rfl)
 case sc1 => exact OpStepK.op1 66 (.int .i64 (i : Int)) (free_ (by kernel_rfl)) (fun x _ h => Eq.trans (b := some (x 0)) (by kernel_rfl) (congrArg some h.1)) fun a u e66 hg K hK => (by go_simp; exact hK.out _ _ (Kp.refl _) rfl)
 case sc2 => exact OpStepK.mv 67 (.bool true) (by kernel_rfl) (free_ (by kernel_rfl)) (fun x _ h => Eq.trans (b := x 1) (by kernel_rfl) h.1) (fun _ => rfl)
 case sc3 | sc9 => exact OpStepK.mv 7 (.slice (some ⟨bp, op, none⟩) Pl c5) (by kernel_rfl) (yes_ 2 68 true (by kernel_rfl) (by kernel_rfl) (fun x _ h => Eq.trans (b := some (x 2)) (by kernel_rfl) (congrArg some h.1))) (fun _ _ _ => by kernel_rfl) (fun _ => rfl)
 case sc4 | sc10 => exact OpStepK.mv 13 (.int .i64 (i : Int)) (by kernel_rfl) (yes_ 2 68 true (by kernel_rfl) (by kernel_rfl) (fun x _ h => Eq.trans (b := some (x 2)) (by kernel_rfl) (congrArg some h.1))) (fun _ _ _ => by kernel_rfl) (fun _ => rfl)
 case sc5 => exact OpStepK.op1 70 (.int .i64 (i : Int)) (yes_ 2 68 true (by kernel_rfl) (by kernel_rfl) (fun x _ h => Eq.trans (b := some (x 2)) (by kernel_rfl) (congrArg some h.1))) (fun x _ h => Eq.trans (b := some (x 4)) (by kernel_rfl) (congrArg some h.2.1)) fun a u e70 hg K hK => (by go_simp; exact hK.out _ _ (Kp.refl _) rfl)
 case sc6 => exact OpStepK.op2 69 71 (.slice (some ⟨bp, op, none⟩) Pl c5) (.int .i64 (z : Int)) (yes_ 2 68 true (by kernel_rfl) (by kernel_rfl) (fun x _ h => Eq.trans (b := some (x 2)) (by kernel_rfl) (congrArg some h.1))) (fun x _ h => Eq.trans (b := some (x 3)) (by kernel_rfl) (congrArg some h.2.1)) (fun x _ h => Eq.trans (b := some (x 5)) (by kernel_rfl) (congrArg some h.2.2.1)) fun a u e69 e71 hg K hK => (by go_simp; exact hK.out _ _ (Kp.refl _) rfl)
 case sc7 => exact OpStepK.op1 72 (.pointer (some ⟨bp, op + z * 3, none⟩)) (yes_ 2 68 true (by kernel_rfl) (by kernel_rfl) (fun x _ h => Eq.trans (b := some (x 2)) (by kernel_rfl) (congrArg some h.1))) (fun x _ h => Eq.trans (b := some (x 6)) (by kernel_rfl) (congrArg some h.2.1)) fun a u e72 hg K hK => (by go_simp; exact hK.out _ _ (Kp.refl _) rfl)
 case sc11 => exact OpStepK.op2 75 76 (.slice (some ⟨bp, op, none⟩) Pl c5) (.int .i64 (i : Int)) (yes_ 2 68 true (by kernel_rfl) (by kernel_rfl) (fun x _ h => Eq.trans (b := some (x 2)) (by kernel_rfl) (congrArg some h.1))) (fun x _ h => Eq.trans (b := some (x 9)) (by kernel_rfl) (congrArg some h.2.1)) (fun x _ h => Eq.trans (b := some (x 10)) (by kernel_rfl) (congrArg some h.2.2.1)) fun a u e75 e76 hg K hK => (by go_simp; exact hK.out _ _ (Kp.refl _) rfl)
 case sc12 => exact OpStepK.op1 77 (.pointer (some ⟨bp, op + i * 3, none⟩)) (yes_ 2 68 true (by kernel_rfl) (by kernel_rfl) (fun x _ h => Eq.trans (b := some (x 2)) (by kernel_rfl) (congrArg some h.1))) (fun x _ h => Eq.trans (b := some (x 11)) (by kernel_rfl) (congrArg some h.2.1)) fun a u e77 hg K hK => (by go_simp; exact hK.out _ _ (Kp.refl _) rfl)
 case sc13 => exact OpStepK.op1 78 (.pointer (some ⟨bp, op + i * 3, none⟩)) (yes_ 2 68 true (by kernel_rfl) (by kernel_rfl) (fun x _ h => Eq.trans (b := some (x 2)) (by kernel_rfl) (congrArg some h.1))) (fun x _ h => Eq.trans (b := some (x 12)) (by kernel_rfl) (congrArg some h.2.1)) fun a u e78 hg K hK => (by have q0 := cell_kp hg hb x0; go_simp; exact hK.out _ _ (Kp.refl _) rfl)
 case sc14 => exact OpStepK.op2 74 79 (.int .i64 (nd : Int)) (.int .i64 (pn : Int)) (yes_ 2 68 true (by kernel_rfl) (by kernel_rfl) (fun x _ h => Eq.trans (b := some (x 2)) (by kernel_rfl) (congrArg some h.1))) (fun x _ h => Eq.trans (b := some (x 8)) (by kernel_rfl) (congrArg some h.2.1)) (fun x _ h => Eq.trans (b := some (x 13)) (by kernel_rfl) (congrArg some h.2.2.1)) fun a u e74 e79 hg K hK => (by go_simp; exact hK.out _ _ (Kp.refl _) rfl)
 case sc15 => exact OpStepK.op2 68 80 (.bool true) (.bool false) (free_ (by kernel_rfl)) (fun x _ h => Eq.trans (b := some (x 2)) (by kernel_rfl) (congrArg some h.1)) (fun x _ h => Eq.trans (b := some (x 14)) (by kernel_rfl) (congrArg some h.2.1)) fun a u e68 e80 hg K hK => (by go_simp; exact hK.out _ _ (Kp.refl _) rfl)
 case sc16 => exact OpStepK.mv 81 (.bool false) (by kernel_rfl) (free_ (by kernel_rfl)) (fun x _ h => Eq.trans (b := x 15) (by kernel_rfl) h.1) (fun _ => rfl)
 case sc17 => exact OpStepK.mv 7 (.slice (some ⟨bp, op, none⟩) Pl c5) (by kernel_rfl) (yes_ 16 82 false (by kernel_rfl) (by kernel_rfl) (fun x _ h => Eq.trans (b := some (x 16)) (by kernel_rfl) (congrArg some h.1))) (fun _ _ _ => by kernel_rfl) (fun _ => rfl)
 case sc18 => exact OpStepK.mv 13 (.int .i64 (i : Int)) (by kernel_rfl) (yes_ 16 82 false (by kernel_rfl) (by kernel_rfl) (fun x _ h => Eq.trans (b := some (x 16)) (by kernel_rfl) (congrArg some h.1))) (fun _ _ _ => by kernel_rfl) (fun _ => rfl)
 case sc19 => exact OpStepK.op2 83 84 (.slice (some ⟨bp, op, none⟩) Pl c5) (.int .i64 (i : Int)) (yes_ 16 82 false (by kernel_rfl) (by kernel_rfl) (fun x _ h => Eq.trans (b := some (x 16)) (by kernel_rfl) (congrArg some h.1))) (fun x _ h => Eq.trans (b := some (x 17)) (by kernel_rfl) (congrArg some h.2.1)) (fun x _ h => Eq.trans (b := some (x 18)) (by kernel_rfl) (congrArg some h.2.2.1)) fun a u e83 e84 hg K hK => (by go_simp; exact hK.out _ _ (Kp.refl _) rfl)
 case sc20 => exact OpStepK.op1 85 (.pointer (some ⟨bp, op + i * 3, none⟩)) (yes_ 16 82 false (by kernel_rfl) (by kernel_rfl) (fun x _ h => Eq.trans (b := some (x 16)) (by kernel_rfl) (congrArg some h.1))) (fun x _ h => Eq.trans (b := some (x 19)) (by kernel_rfl) (congrArg some h.2.1)) fun a u e85 hg K hK => (by go_simp; exact hK.out _ _ (Kp.refl _) rfl)
 case sc21 => exact OpStepK.op1 86 (.pointer (some ⟨bp, op + i * 3 + 2, none⟩)) (yes_ 16 82 false (by kernel_rfl) (by kernel_rfl) (fun x _ h => Eq.trans (b := some (x 16)) (by kernel_rfl) (congrArg some h.1))) (fun x _ h => Eq.trans (b := some (x 20)) (by kernel_rfl) (congrArg some h.2.1)) fun a u e86 hg K hK => (by have q0 := cell_kp hg hb x2; go_simp; exact hK.out _ _ (Kp.refl _) rfl)
 case sc22 => exact OpStepK.mv 87 (.bool false) (by kernel_rfl) (yes_ 16 82 false (by kernel_rfl) (by kernel_rfl) (fun x _ h => Eq.trans (b := some (x 16)) (by kernel_rfl) (congrArg some h.1))) (fun x _ h => Eq.trans (b := x 21) (by kernel_rfl) h.2.1) (fun _ => rfl)
 case sc23 | sc24 | sc25 | sc26 | sc27 | sc28 | sc29 => exact OpStepK.no 22 88 true false (by kernel_rfl) (by kernel_rfl) (by decide) (fun x _ h => Eq.trans (b := some (x 22)) (by kernel_rfl) (congrArg some h.1)) (fun _ => rfl)
 case sc30 => exact OpStepK.op2 88 95 (.bool false) (undef) (yes_ 16 82 false (by kernel_rfl) (by kernel_rfl) (fun x _ h => Eq.trans (b := some (x 16)) (by kernel_rfl) (congrArg some h.1))) (fun x _ h => Eq.trans (b := some (x 22)) (by kernel_rfl) (congrArg some h.2.1)) (fun x _ h => Eq.trans (b := some (x 29)) (by kernel_rfl) (congrArg some h.2.2.1)) fun a u e88 e95 hg K hK => (by go_simp; exact hK.out _ _ (Kp.refl _) rfl)
 case sc31 => exact OpStepK.op2 82 96 (.bool false) (.bool false) (free_ (by kernel_rfl)) (fun x _ h => Eq.trans (b := some (x 16)) (by kernel_rfl) (congrArg some h.1)) (fun x _ h => Eq.trans (b := some (x 30)) (by kernel_rfl) (congrArg some h.2.1)) fun a u e82 e96 hg K hK => (by go_simp; exact hK.out _ _ (Kp.refl _) rfl)
 case sc8 =>
  refine OpStepK.by_ ?_
  intro a x u ht hs hg hd K hK
  have d2 : (x 2) = .bool true := hd.1
  have d7 : (x 7) = .pointer (some ⟨bp, op + z * 3, none⟩) := hd.2.1
  clear hd
  refine OpGoal.live (wanted_yes (j := 2) (d := 68) (by kernel_rfl) (by kernel_rfl) ((hs 68).trans (Eq.trans (b := some (x 2)) (by kernel_rfl) (by rw [d2])))) ?_
  have e73 : a.tmps[73]? = some (.pointer (some ⟨bp, op + z * 3, none⟩) : Value) := (hs 73).trans (Eq.trans (b := some (x 7)) (by kernel_rfl) (by rw [d7]))
  clear d2 d7
  clear ht hs
  have q0 := cell_kp hg hb d3
  go_simp
  exact hK.out _ _ (Kp.refl _) rfl
 intro x u hg he
 obtain ⟨d0, d1, d2, d3, d4, d5, d6, d7, d8, d9, d10, d11, d12, d13, d14, d15, d16, d17, d18, d19, d20, d21, d22, d23, d24, d25, d26, d27, d28, d29, d30, d31, -⟩ := he
 refine ⟨?_⟩
 simp only [putsFrom, Act.put, List.setIfInBounds_toArray, List.set_cons_zero, List.set_cons_succ, Nat.reduceAdd, d0, d1, d2, d3, d4, d5, d6, d7, d8, d9, d10, d11, d12, d13, d14, d15, d16, d17, d18, d19, d20, d21, d22, d23, d24, d25, d26, d27, d28, d29, d30, d31]
 clear d0 d1 d2 d3 d4 d5 d6 d7 d8 d9 d10 d11 d12 d13 d14 d15 d16 d17 d18 d19 d20 d21 d22 d23 d24 d25 d26 d27 d28 d29 d30 d31
 exact hE _ hg
theorem e14nt {W : World} {Q : Exit → Act → World → Prop} {s0 s1 s2 s3 s4 s5 s6 s8 s9 s10 s11 s12 s14 s15 s16 s17 s18 s19 s20 s21 s22 s23 s24 s25 s26 s27 s28 s29 s30 s31 s32 s33 s34 s35 s36 s37 s38 s39 s40 s41 s42 s43 s44 s45 s46 s47 s48 s49 s50 s51 s52 s53 s54 s55 s56 s57 s58 s59 s60 s61 s62 s63 s64 s65 s66 s67 s68 s69 s70 s71 s72 s73 s74 s75 s76 s77 s78 s79 s80 s81 s82 s83 s84 s85 s86 s87 s88 s89 s90 s91 s92 s93 s94 s95 s96 s97 s98 s99 s100 s101 s102 s103 s104 s105 s106 s107 s108 s109 s110 s111 s112 s113 s114 s115 s116 s117 s118 s119 s120 s121 s122 s123 s124 s125 s126 s127 s128 s129 s130 s131 s132 s133 s134 s135 s136 s137 s138 s139 s140 s141 s142 s143 s144 s145 s146 s147 s148 s149 s150 s151 s152 s153 s154 s155 s156 s157 s158 s159 s160 s161 s162 s163 s164 s165 s166 s167 s168 s169 s170 s171 s172 s173 s174 s175 s176 s177 s178 s179 s180 s181 s182 s183 s184 s185 s186 s187 s188 s189 s190 s191 s192 : Value} {bp op c5 i pn Pl sl c2 : Nat} {A2 : Option Addr} (hb : bp < W.heap.size) (x0 : W.cell? ⟨bp, op + i * 3, none⟩ = some (.int .i64 (pn : Int))) (x1 : W.cell? ⟨bp, op + i * 3 + 1, none⟩ = some (.slice A2 sl c2)) (x2 : W.cell? ⟨bp, op + i * 3 + 2, none⟩ = some (.bool true)) (i1 : (i : Int) < (Pl : Int)) (d : ¬ 0 < i) (d8 : ¬ (8 : Int) < (sl : Int))
  (hE : ∀ u, Kp W u → Q .normal { tmps := #[s0, s1, s2, s3, s4, s5, s6, .slice (some ⟨bp, op, none⟩) Pl c5, s8, s9, s10, s11, s12, .int .i64 (i : Int), s14, s15, s16, s17, s18, s19, s20, s21, s22, s23, s24, s25, s26, s27, s28, s29, s30, s31, s32, s33, s34, s35, s36, s37, s38, s39, s40, s41, s42, s43, s44, s45, s46, s47, s48, s49, s50, s51, s52, s53, s54, s55, s56, s57, s58, s59, s60, s61, s62, s63, s64, s65, .int .i64 (i : Int), .bool false, .bool false, undef, undef, undef, undef, undef, undef, undef, undef, undef, undef, undef, undef, .bool false, .bool false, .slice (some ⟨bp, op, none⟩) Pl c5, .int .i64 (i : Int), .pointer (some ⟨bp, op + i * 3, none⟩), .pointer (some ⟨bp, op + i * 3 + 2, none⟩), .bool true, .bool true, .slice (some ⟨bp, op, none⟩) Pl c5, .int .i64 (i : Int), .pointer (some ⟨bp, op + i * 3, none⟩), .pointer (some ⟨bp, op + i * 3 + 1, none⟩), .slice A2 sl c2, .int .i64 (sl : Int), .bool false, .bool false, .bool false, s98, s99, s100, s101, s102, s103, s104, s105, s106, s107, s108, s109, s110, s111, s112, s113, s114, s115, s116, s117, s118, s119, s120, s121, s122, s123, s124, s125, s126, s127, s128, s129, s130, s131, s132, s133, s134, s135, s136, s137, s138, s139, s140, s141, s142, s143, s144, s145, s146, s147, s148, s149, s150, s151, s152, s153, s154, s155, s156, s157, s158, s159, s160, s161, s162, s163, s164, s165, s166, s167, s168, s169, s170, s171, s172, s173, s174, s175, s176, s177, s178, s179, s180, s181, s182, s183, s184, s185, s186, s187, s188, s189, s190, s191, s192], defers := [] } u) :
  (Code.region 14 (regArr Try.f3 14) true).wp Try.prog Q { tmps := #[s0, s1, s2, s3, s4, s5, s6, .slice (some ⟨bp, op, none⟩) Pl c5, s8, s9, s10, s11, s12, .int .i64 (i : Int), s14, s15, s16, s17, s18, s19, s20, s21, s22, s23, s24, s25, s26, s27, s28, s29, s30, s31, s32, s33, s34, s35, s36, s37, s38, s39, s40, s41, s42, s43, s44, s45, s46, s47, s48, s49, s50, s51, s52, s53, s54, s55, s56, s57, s58, s59, s60, s61, s62, s63, s64, s65, s66, s67, s68, s69, s70, s71, s72, s73, s74, s75, s76, s77, s78, s79, s80, s81, s82, s83, s84, s85, s86, s87, s88, s89, s90, s91, s92, s93, s94, s95, s96, s97, s98, s99, s100, s101, s102, s103, s104, s105, s106, s107, s108, s109, s110, s111, s112, s113, s114, s115, s116, s117, s118, s119, s120, s121, s122, s123, s124, s125, s126, s127, s128, s129, s130, s131, s132, s133, s134, s135, s136, s137, s138, s139, s140, s141, s142, s143, s144, s145, s146, s147, s148, s149, s150, s151, s152, s153, s154, s155, s156, s157, s158, s159, s160, s161, s162, s163, s164, s165, s166, s167, s168, s169, s170, s171, s172, s173, s174, s175, s176, s177, s178, s179, s180, s181, s182, s183, s184, s185, s186, s187, s188, s189, s190, s191, s192], defers := [] } W := by
 simp only [regArr, Try.f3, Option.map_some, Option.getD_some, regOf, if_true, if_false, List.append_nil, List.nil_append, List.toList_toArray, Nat.reduceEqDiff, reduceIte]
 refine wp_region_kp [[], [0], [1], [2], [2], [2, 4], [2, 3, 5], [2, 6], [2, 7], [2], [2], [2, 9, 10], [2, 11], [2, 12], [2, 8, 13], [2, 14], [15], [16], [16], [16, 17, 18], [16, 19], [16, 20], [16, 21], [22], [22], [22, 23, 24], [22, 25], [22, 26], [22, 27], [22, 28], [16, 22, 29], [16, 30]] (fun u => Kp W u)
  [eqV (.int .i64 (i : Int)), eqV (.bool false), eqV (.bool false), eqV (undef), eqV (undef), eqV (undef), eqV (undef), eqV (undef), eqV (undef), eqV (undef), eqV (undef), eqV (undef), eqV (undef), eqV (undef), eqV (undef), eqV (.bool false), eqV (.bool false), eqV (.slice (some ⟨bp, op, none⟩) Pl c5), eqV (.int .i64 (i : Int)), eqV (.pointer (some ⟨bp, op + i * 3, none⟩)), eqV (.pointer (some ⟨bp, op + i * 3 + 2, none⟩)), eqV (.bool true), eqV (.bool true), eqV (.slice (some ⟨bp, op, none⟩) Pl c5), eqV (.int .i64 (i : Int)), eqV (.pointer (some ⟨bp, op + i * 3, none⟩)), eqV (.pointer (some ⟨bp, op + i * 3 + 1, none⟩)), eqV (.slice A2 sl c2), eqV (.int .i64 (sl : Int)), eqV (.bool false), eqV (.bool false), eqV (.bool false)]
  (by kernel_rfl) (by kernel_rfl) (by kernel_rfl) (by kernel_rfl) ((Kp.refl _).drew) (fun _ _ hk h => h.trans hk) (by repeat' first | exact trivial | refine ⟨fun _ _ _ _ h => h, ?_⟩) ⟨?sd0, ?sd1, ?sd2, ?sd3, ?sd4, ?sd5, ?sd6, ?sd7, ?sd8, ?sd9, ?sd10, ?sd11, ?sd12, ?sd13, ?sd14, ?sd15, ?sd16, ?sd17, ?sd18, ?sd19, ?sd20, ?sd21, ?sd22, ?sd23, ?sd24, ?sd25, ?sd26, ?sd27, ?sd28, ?sd29, ?sd30, ?sd31, trivial⟩ ?hEd
 case sd0 => exact OpStepK.mv 13 (.int .i64 (i : Int)) (by kernel_rfl) (free_ (by kernel_rfl)) (fun _ _ _ => by kernel_rfl) (fun _ => rfl)
 case sd1 => exact OpStepK.op1 66 (.int .i64 (i : Int)) (free_ (by kernel_rfl)) (fun x _ h => Eq.trans (b := some (x 0)) (by kernel_rfl) (congrArg some h.1)) fun a u e66 hg K hK => (by go_simp; exact hK.out _ _ (Kp.refl _) rfl)
 case sd2 => exact OpStepK.mv 67 (.bool false) (by kernel_rfl) (free_ (by kernel_rfl)) (fun x _ h => Eq.trans (b := x 1) (by kernel_rfl) h.1) (fun _ => rfl)
 case sd3 | sd4 | sd5 | sd6 | sd7 | sd8 | sd9 | sd10 | sd11 | sd12 | sd13 | sd14 => exact OpStepK.no 2 68 true false (by kernel_rfl) (by kernel_rfl) (by decide) (fun x _ h => Eq.trans (b := some (x 2)) (by kernel_rfl) (congrArg some h.1)) (fun _ => rfl)
 case sd15 => exact OpStepK.op2 68 80 (.bool false) (undef) (free_ (by kernel_rfl)) (fun x _ h => Eq.trans (b := some (x 2)) (by kernel_rfl) (congrArg some h.1)) (fun x _ h => Eq.trans (b := some (x 14)) (by kernel_rfl) (congrArg some h.2.1)) fun a u e68 e80 hg K hK => (by go_simp; exact hK.out _ _ (Kp.refl _) rfl)
 case sd16 => exact OpStepK.mv 81 (.bool false) (by kernel_rfl) (free_ (by kernel_rfl)) (fun x _ h => Eq.trans (b := x 15) (by kernel_rfl) h.1) (fun _ => rfl)
 case sd17 => exact OpStepK.mv 7 (.slice (some ⟨bp, op, none⟩) Pl c5) (by kernel_rfl) (yes_ 16 82 false (by kernel_rfl) (by kernel_rfl) (fun x _ h => Eq.trans (b := some (x 16)) (by kernel_rfl) (congrArg some h.1))) (fun _ _ _ => by kernel_rfl) (fun _ => rfl)
 case sd18 => exact OpStepK.mv 13 (.int .i64 (i : Int)) (by kernel_rfl) (yes_ 16 82 false (by kernel_rfl) (by kernel_rfl) (fun x _ h => Eq.trans (b := some (x 16)) (by kernel_rfl) (congrArg some h.1))) (fun _ _ _ => by kernel_rfl) (fun _ => rfl)
 case sd19 => exact OpStepK.op2 83 84 (.slice (some ⟨bp, op, none⟩) Pl c5) (.int .i64 (i : Int)) (yes_ 16 82 false (by kernel_rfl) (by kernel_rfl) (fun x _ h => Eq.trans (b := some (x 16)) (by kernel_rfl) (congrArg some h.1))) (fun x _ h => Eq.trans (b := some (x 17)) (by kernel_rfl) (congrArg some h.2.1)) (fun x _ h => Eq.trans (b := some (x 18)) (by kernel_rfl) (congrArg some h.2.2.1)) fun a u e83 e84 hg K hK => (by go_simp; exact hK.out _ _ (Kp.refl _) rfl)
 case sd20 => exact OpStepK.op1 85 (.pointer (some ⟨bp, op + i * 3, none⟩)) (yes_ 16 82 false (by kernel_rfl) (by kernel_rfl) (fun x _ h => Eq.trans (b := some (x 16)) (by kernel_rfl) (congrArg some h.1))) (fun x _ h => Eq.trans (b := some (x 19)) (by kernel_rfl) (congrArg some h.2.1)) fun a u e85 hg K hK => (by go_simp; exact hK.out _ _ (Kp.refl _) rfl)
 case sd21 => exact OpStepK.op1 86 (.pointer (some ⟨bp, op + i * 3 + 2, none⟩)) (yes_ 16 82 false (by kernel_rfl) (by kernel_rfl) (fun x _ h => Eq.trans (b := some (x 16)) (by kernel_rfl) (congrArg some h.1))) (fun x _ h => Eq.trans (b := some (x 20)) (by kernel_rfl) (congrArg some h.2.1)) fun a u e86 hg K hK => (by have q0 := cell_kp hg hb x2; go_simp; exact hK.out _ _ (Kp.refl _) rfl)
 case sd22 => exact OpStepK.mv 87 (.bool true) (by kernel_rfl) (yes_ 16 82 false (by kernel_rfl) (by kernel_rfl) (fun x _ h => Eq.trans (b := some (x 16)) (by kernel_rfl) (congrArg some h.1))) (fun x _ h => Eq.trans (b := x 21) (by kernel_rfl) h.2.1) (fun _ => rfl)
 case sd23 => exact OpStepK.mv 7 (.slice (some ⟨bp, op, none⟩) Pl c5) (by kernel_rfl) (yes_ 22 88 true (by kernel_rfl) (by kernel_rfl) (fun x _ h => Eq.trans (b := some (x 22)) (by kernel_rfl) (congrArg some h.1))) (fun _ _ _ => by kernel_rfl) (fun _ => rfl)
 case sd24 => exact OpStepK.mv 13 (.int .i64 (i : Int)) (by kernel_rfl) (yes_ 22 88 true (by kernel_rfl) (by kernel_rfl) (fun x _ h => Eq.trans (b := some (x 22)) (by kernel_rfl) (congrArg some h.1))) (fun _ _ _ => by kernel_rfl) (fun _ => rfl)
 case sd25 => exact OpStepK.op2 89 90 (.slice (some ⟨bp, op, none⟩) Pl c5) (.int .i64 (i : Int)) (yes_ 22 88 true (by kernel_rfl) (by kernel_rfl) (fun x _ h => Eq.trans (b := some (x 22)) (by kernel_rfl) (congrArg some h.1))) (fun x _ h => Eq.trans (b := some (x 23)) (by kernel_rfl) (congrArg some h.2.1)) (fun x _ h => Eq.trans (b := some (x 24)) (by kernel_rfl) (congrArg some h.2.2.1)) fun a u e89 e90 hg K hK => (by go_simp; exact hK.out _ _ (Kp.refl _) rfl)
 case sd26 => exact OpStepK.op1 91 (.pointer (some ⟨bp, op + i * 3, none⟩)) (yes_ 22 88 true (by kernel_rfl) (by kernel_rfl) (fun x _ h => Eq.trans (b := some (x 22)) (by kernel_rfl) (congrArg some h.1))) (fun x _ h => Eq.trans (b := some (x 25)) (by kernel_rfl) (congrArg some h.2.1)) fun a u e91 hg K hK => (by go_simp; exact hK.out _ _ (Kp.refl _) rfl)
 case sd27 => exact OpStepK.op1 92 (.pointer (some ⟨bp, op + i * 3 + 1, none⟩)) (yes_ 22 88 true (by kernel_rfl) (by kernel_rfl) (fun x _ h => Eq.trans (b := some (x 22)) (by kernel_rfl) (congrArg some h.1))) (fun x _ h => Eq.trans (b := some (x 26)) (by kernel_rfl) (congrArg some h.2.1)) fun a u e92 hg K hK => (by have q0 := cell_kp hg hb x1; go_simp; exact hK.out _ _ (Kp.refl _) rfl)
 case sd28 => exact OpStepK.op1 93 (.slice A2 sl c2) (yes_ 22 88 true (by kernel_rfl) (by kernel_rfl) (fun x _ h => Eq.trans (b := some (x 22)) (by kernel_rfl) (congrArg some h.1))) (fun x _ h => Eq.trans (b := some (x 27)) (by kernel_rfl) (congrArg some h.2.1)) fun a u e93 hg K hK => (by go_simp; exact hK.out _ _ (Kp.refl _) rfl)
 case sd29 => exact OpStepK.op1 94 (.int .i64 (sl : Int)) (yes_ 22 88 true (by kernel_rfl) (by kernel_rfl) (fun x _ h => Eq.trans (b := some (x 22)) (by kernel_rfl) (congrArg some h.1))) (fun x _ h => Eq.trans (b := some (x 28)) (by kernel_rfl) (congrArg some h.2.1)) fun a u e94 hg K hK => (by go_simp; exact hK.out _ _ (Kp.refl _) rfl)
 case sd30 => exact OpStepK.op2 88 95 (.bool true) (.bool false) (yes_ 16 82 false (by kernel_rfl) (by kernel_rfl) (fun x _ h => Eq.trans (b := some (x 16)) (by kernel_rfl) (congrArg some h.1))) (fun x _ h => Eq.trans (b := some (x 22)) (by kernel_rfl) (congrArg some h.2.1)) (fun x _ h => Eq.trans (b := some (x 29)) (by kernel_rfl) (congrArg some h.2.2.1)) fun a u e88 e95 hg K hK => (by go_simp; exact hK.out _ _ (Kp.refl _) rfl)
 case sd31 => exact OpStepK.op2 82 96 (.bool false) (.bool false) (free_ (by kernel_rfl)) (fun x _ h => Eq.trans (b := some (x 16)) (by kernel_rfl) (congrArg some h.1)) (fun x _ h => Eq.trans (b := some (x 30)) (by kernel_rfl) (congrArg some h.2.1)) fun a u e82 e96 hg K hK => (by go_simp; exact hK.out _ _ (Kp.refl _) rfl)
 intro x u hg he
 obtain ⟨d0, d1, d2, d3, d4, d5, d6, d7, d8, d9, d10, d11, d12, d13, d14, d15, d16, d17, d18, d19, d20, d21, d22, d23, d24, d25, d26, d27, d28, d29, d30, d31, -⟩ := he
 refine ⟨?_⟩
 simp only [putsFrom, Act.put, List.setIfInBounds_toArray, List.set_cons_zero, List.set_cons_succ, Nat.reduceAdd, d0, d1, d2, d3, d4, d5, d6, d7, d8, d9, d10, d11, d12, d13, d14, d15, d16, d17, d18, d19, d20, d21, d22, d23, d24, d25, d26, d27, d28, d29, d30, d31]
 clear d0 d1 d2 d3 d4 d5 d6 d7 d8 d9 d10 d11 d12 d13 d14 d15 d16 d17 d18 d19 d20 d21 d22 d23 d24 d25 d26 d27 d28 d29 d30 d31
 exact hE _ hg
theorem e14nf {W : World} {Q : Exit → Act → World → Prop} {s0 s1 s2 s3 s4 s5 s6 s8 s9 s10 s11 s12 s14 s15 s16 s17 s18 s19 s20 s21 s22 s23 s24 s25 s26 s27 s28 s29 s30 s31 s32 s33 s34 s35 s36 s37 s38 s39 s40 s41 s42 s43 s44 s45 s46 s47 s48 s49 s50 s51 s52 s53 s54 s55 s56 s57 s58 s59 s60 s61 s62 s63 s64 s65 s66 s67 s68 s69 s70 s71 s72 s73 s74 s75 s76 s77 s78 s79 s80 s81 s82 s83 s84 s85 s86 s87 s88 s89 s90 s91 s92 s93 s94 s95 s96 s97 s98 s99 s100 s101 s102 s103 s104 s105 s106 s107 s108 s109 s110 s111 s112 s113 s114 s115 s116 s117 s118 s119 s120 s121 s122 s123 s124 s125 s126 s127 s128 s129 s130 s131 s132 s133 s134 s135 s136 s137 s138 s139 s140 s141 s142 s143 s144 s145 s146 s147 s148 s149 s150 s151 s152 s153 s154 s155 s156 s157 s158 s159 s160 s161 s162 s163 s164 s165 s166 s167 s168 s169 s170 s171 s172 s173 s174 s175 s176 s177 s178 s179 s180 s181 s182 s183 s184 s185 s186 s187 s188 s189 s190 s191 s192 : Value} {bp op c5 i pn Pl sl c2 : Nat} {A2 : Option Addr} (hb : bp < W.heap.size) (x0 : W.cell? ⟨bp, op + i * 3, none⟩ = some (.int .i64 (pn : Int))) (x1 : W.cell? ⟨bp, op + i * 3 + 1, none⟩ = some (.slice A2 sl c2)) (x2 : W.cell? ⟨bp, op + i * 3 + 2, none⟩ = some (.bool false)) (i1 : (i : Int) < (Pl : Int)) (d : ¬ 0 < i)
  (hE : ∀ u, Kp W u → Q .normal { tmps := #[s0, s1, s2, s3, s4, s5, s6, .slice (some ⟨bp, op, none⟩) Pl c5, s8, s9, s10, s11, s12, .int .i64 (i : Int), s14, s15, s16, s17, s18, s19, s20, s21, s22, s23, s24, s25, s26, s27, s28, s29, s30, s31, s32, s33, s34, s35, s36, s37, s38, s39, s40, s41, s42, s43, s44, s45, s46, s47, s48, s49, s50, s51, s52, s53, s54, s55, s56, s57, s58, s59, s60, s61, s62, s63, s64, s65, .int .i64 (i : Int), .bool false, .bool false, undef, undef, undef, undef, undef, undef, undef, undef, undef, undef, undef, undef, .bool false, .bool false, .slice (some ⟨bp, op, none⟩) Pl c5, .int .i64 (i : Int), .pointer (some ⟨bp, op + i * 3, none⟩), .pointer (some ⟨bp, op + i * 3 + 2, none⟩), .bool false, .bool false, undef, undef, undef, undef, undef, undef, undef, .bool false, .bool false, s98, s99, s100, s101, s102, s103, s104, s105, s106, s107, s108, s109, s110, s111, s112, s113, s114, s115, s116, s117, s118, s119, s120, s121, s122, s123, s124, s125, s126, s127, s128, s129, s130, s131, s132, s133, s134, s135, s136, s137, s138, s139, s140, s141, s142, s143, s144, s145, s146, s147, s148, s149, s150, s151, s152, s153, s154, s155, s156, s157, s158, s159, s160, s161, s162, s163, s164, s165, s166, s167, s168, s169, s170, s171, s172, s173, s174, s175, s176, s177, s178, s179, s180, s181, s182, s183, s184, s185, s186, s187, s188, s189, s190, s191, s192], defers := [] } u) :
  (Code.region 14 (regArr Try.f3 14) true).wp Try.prog Q { tmps := #[s0, s1, s2, s3, s4, s5, s6, .slice (some ⟨bp, op, none⟩) Pl c5, s8, s9, s10, s11, s12, .int .i64 (i : Int), s14, s15, s16, s17, s18, s19, s20, s21, s22, s23, s24, s25, s26, s27, s28, s29, s30, s31, s32, s33, s34, s35, s36, s37, s38, s39, s40, s41, s42, s43, s44, s45, s46, s47, s48, s49, s50, s51, s52, s53, s54, s55, s56, s57, s58, s59, s60, s61, s62, s63, s64, s65, s66, s67, s68, s69, s70, s71, s72, s73, s74, s75, s76, s77, s78, s79, s80, s81, s82, s83, s84, s85, s86, s87, s88, s89, s90, s91, s92, s93, s94, s95, s96, s97, s98, s99, s100, s101, s102, s103, s104, s105, s106, s107, s108, s109, s110, s111, s112, s113, s114, s115, s116, s117, s118, s119, s120, s121, s122, s123, s124, s125, s126, s127, s128, s129, s130, s131, s132, s133, s134, s135, s136, s137, s138, s139, s140, s141, s142, s143, s144, s145, s146, s147, s148, s149, s150, s151, s152, s153, s154, s155, s156, s157, s158, s159, s160, s161, s162, s163, s164, s165, s166, s167, s168, s169, s170, s171, s172, s173, s174, s175, s176, s177, s178, s179, s180, s181, s182, s183, s184, s185, s186, s187, s188, s189, s190, s191, s192], defers := [] } W := by
 simp only [regArr, Try.f3, Option.map_some, Option.getD_some, regOf, if_true, if_false, List.append_nil, List.nil_append, List.toList_toArray, Nat.reduceEqDiff, reduceIte]
 refine wp_region_kp [[], [0], [1], [2], [2], [2, 4], [2, 3, 5], [2, 6], [2, 7], [2], [2], [2, 9, 10], [2, 11], [2, 12], [2, 8, 13], [2, 14], [15], [16], [16], [16, 17, 18], [16, 19], [16, 20], [16, 21], [22], [22], [22, 23, 24], [22, 25], [22, 26], [22, 27], [22, 28], [16, 22, 29], [16, 30]] (fun u => Kp W u)
  [eqV (.int .i64 (i : Int)), eqV (.bool false), eqV (.bool false), eqV (undef), eqV (undef), eqV (undef), eqV (undef), eqV (undef), eqV (undef), eqV (undef), eqV (undef), eqV (undef), eqV (undef), eqV (undef), eqV (undef), eqV (.bool false), eqV (.bool false), eqV (.slice (some ⟨bp, op, none⟩) Pl c5), eqV (.int .i64 (i : Int)), eqV (.pointer (some ⟨bp, op + i * 3, none⟩)), eqV (.pointer (some ⟨bp, op + i * 3 + 2, none⟩)), eqV (.bool false), eqV (.bool false), eqV (undef), eqV (undef), eqV (undef), eqV (undef), eqV (undef), eqV (undef), eqV (undef), eqV (.bool false), eqV (.bool false)]
  (by kernel_rfl) (by kernel_rfl) (by kernel_rfl) (by kernel_rfl) ((Kp.refl _).drew) (fun _ _ hk h => h.trans hk) (by repeat' first | exact trivial | refine ⟨fun _ _ _ _ h => h, ?_⟩) ⟨?se0, ?se1, ?se2, ?se3, ?se4, ?se5, ?se6, ?se7, ?se8, ?se9, ?se10, ?se11, ?se12, ?se13, ?se14, ?se15, ?se16, ?se17, ?se18, ?se19, ?se20, ?se21, ?se22, ?se23, ?se24, ?se25, ?se26, ?se27, ?se28, ?se29, ?se30, ?se31, trivial⟩ ?hEe
 case se0 => exact OpStepK.mv 13 (.int .i64 (i : Int)) (by kernel_rfl) (free_ (by kernel_rfl)) (fun _ _ _ => by kernel_rfl) (fun _ => rfl)
 case se1 => exact OpStepK.op1 66 (.int .i64 (i : Int)) (free_ (by kernel_rfl)) (fun x _ h => Eq.trans (b := some (x 0)) (by kernel_rfl) (congrArg some h.1)) fun a u e66 hg K hK => (by go_simp; exact hK.out _ _ (Kp.refl _) rfl)
 case se2 => exact OpStepK.mv 67 (.bool false) (by kernel_rfl) (free_ (by kernel_rfl)) (fun x _ h => Eq.trans (b := x 1) (by kernel_rfl) h.1) (fun _ => rfl)
 case se3 | se4 | se5 | se6 | se7 | se8 | se9 | se10 | se11 | se12 | se13 | se14 => exact OpStepK.no 2 68 true false (by kernel_rfl) (by kernel_rfl) (by decide) (fun x _ h => Eq.trans (b := some (x 2)) (by kernel_rfl) (congrArg some h.1)) (fun _ => rfl)
 case se15 => exact OpStepK.op2 68 80 (.bool false) (undef) (free_ (by kernel_rfl)) (fun x _ h => Eq.trans (b := some (x 2)) (by kernel_rfl) (congrArg some h.1)) (fun x _ h => Eq.trans (b := some (x 14)) (by kernel_rfl) (congrArg some h.2.1)) fun a u e68 e80 hg K hK => (by go_simp; exact hK.out _ _ (Kp.refl _) rfl)
 case se16 => exact OpStepK.mv 81 (.bool false) (by kernel_rfl) (free_ (by kernel_rfl)) (fun x _ h => Eq.trans (b := x 15) (by kernel_rfl) h.1) (fun _ => rfl)
 case se17 => exact OpStepK.mv 7 (.slice (some ⟨bp, op, none⟩) Pl c5) (by kernel_rfl) (yes_ 16 82 false (by kernel_rfl) (by kernel_rfl) (fun x _ h => Eq.trans (b := some (x 16)) (by kernel_rfl) (congrArg some h.1))) (fun _ _ _ => by kernel_rfl) (fun _ => rfl)
 case se18 => exact OpStepK.mv 13 (.int .i64 (i : Int)) (by kernel_rfl) (yes_ 16 82 false (by kernel_rfl) (by kernel_rfl) (fun x _ h => Eq.trans (b := some (x 16)) (by kernel_rfl) (congrArg some h.1))) (fun _ _ _ => by kernel_rfl) (fun _ => rfl)
 case se19 => exact OpStepK.op2 83 84 (.slice (some ⟨bp, op, none⟩) Pl c5) (.int .i64 (i : Int)) (yes_ 16 82 false (by kernel_rfl) (by kernel_rfl) (fun x _ h => Eq.trans (b := some (x 16)) (by kernel_rfl) (congrArg some h.1))) (fun x _ h => Eq.trans (b := some (x 17)) (by kernel_rfl) (congrArg some h.2.1)) (fun x _ h => Eq.trans (b := some (x 18)) (by kernel_rfl) (congrArg some h.2.2.1)) fun a u e83 e84 hg K hK => (by go_simp; exact hK.out _ _ (Kp.refl _) rfl)
 case se20 => exact OpStepK.op1 85 (.pointer (some ⟨bp, op + i * 3, none⟩)) (yes_ 16 82 false (by kernel_rfl) (by kernel_rfl) (fun x _ h => Eq.trans (b := some (x 16)) (by kernel_rfl) (congrArg some h.1))) (fun x _ h => Eq.trans (b := some (x 19)) (by kernel_rfl) (congrArg some h.2.1)) fun a u e85 hg K hK => (by go_simp; exact hK.out _ _ (Kp.refl _) rfl)
 case se21 => exact OpStepK.op1 86 (.pointer (some ⟨bp, op + i * 3 + 2, none⟩)) (yes_ 16 82 false (by kernel_rfl) (by kernel_rfl) (fun x _ h => Eq.trans (b := some (x 16)) (by kernel_rfl) (congrArg some h.1))) (fun x _ h => Eq.trans (b := some (x 20)) (by kernel_rfl) (congrArg some h.2.1)) fun a u e86 hg K hK => (by have q0 := cell_kp hg hb x2; go_simp; exact hK.out _ _ (Kp.refl _) rfl)
 case se22 => exact OpStepK.mv 87 (.bool false) (by kernel_rfl) (yes_ 16 82 false (by kernel_rfl) (by kernel_rfl) (fun x _ h => Eq.trans (b := some (x 16)) (by kernel_rfl) (congrArg some h.1))) (fun x _ h => Eq.trans (b := x 21) (by kernel_rfl) h.2.1) (fun _ => rfl)
 case se23 | se24 | se25 | se26 | se27 | se28 | se29 => exact OpStepK.no 22 88 true false (by kernel_rfl) (by kernel_rfl) (by decide) (fun x _ h => Eq.trans (b := some (x 22)) (by kernel_rfl) (congrArg some h.1)) (fun _ => rfl)
 case se30 => exact OpStepK.op2 88 95 (.bool false) (undef) (yes_ 16 82 false (by kernel_rfl) (by kernel_rfl) (fun x _ h => Eq.trans (b := some (x 16)) (by kernel_rfl) (congrArg some h.1))) (fun x _ h => Eq.trans (b := some (x 22)) (by kernel_rfl) (congrArg some h.2.1)) (fun x _ h => Eq.trans (b := some (x 29)) (by kernel_rfl) (congrArg some h.2.2.1)) fun a u e88 e95 hg K hK => (by go_simp; exact hK.out _ _ (Kp.refl _) rfl)
 case se31 => exact OpStepK.op2 82 96 (.bool false) (.bool false) (free_ (by kernel_rfl)) (fun x _ h => Eq.trans (b := some (x 16)) (by kernel_rfl) (congrArg some h.1)) (fun x _ h => Eq.trans (b := some (x 30)) (by kernel_rfl) (congrArg some h.2.1)) fun a u e82 e96 hg K hK => (by go_simp; exact hK.out _ _ (Kp.refl _) rfl)
 intro x u hg he
 obtain ⟨d0, d1, d2, d3, d4, d5, d6, d7, d8, d9, d10, d11, d12, d13, d14, d15, d16, d17, d18, d19, d20, d21, d22, d23, d24, d25, d26, d27, d28, d29, d30, d31, -⟩ := he
 refine ⟨?_⟩
 simp only [putsFrom, Act.put, List.setIfInBounds_toArray, List.set_cons_zero, List.set_cons_succ, Nat.reduceAdd, d0, d1, d2, d3, d4, d5, d6, d7, d8, d9, d10, d11, d12, d13, d14, d15, d16, d17, d18, d19, d20, d21, d22, d23, d24, d25, d26, d27, d28, d29, d30, d31]
 clear d0 d1 d2 d3 d4 d5 d6 d7 d8 d9 d10 d11 d12 d13 d14 d15 d16 d17 d18 d19 d20 d21 d22 d23 d24 d25 d26 d27 d28 d29 d30 d31
 exact hE _ hg
theorem e17 {W : World} {Q : Exit → Act → World → Prop} {s0 s1 s2 s3 s4 s5 s6 s8 s9 s10 s11 s12 s16 s17 s18 s19 s20 s21 s22 s23 s24 s25 s26 s27 s28 s29 s30 s31 s32 s33 s34 s35 s36 s37 s38 s39 s40 s41 s42 s43 s44 s45 s46 s47 s48 s49 s50 s51 s52 s53 s54 s55 s56 s57 s58 s59 s60 s61 s62 s63 s64 s65 s66 s67 s68 s69 s70 s71 s72 s73 s74 s75 s76 s77 s78 s79 s80 s81 s82 s83 s84 s85 s86 s87 s88 s89 s90 s91 s92 s93 s94 s95 s96 s97 s98 s99 s100 s101 s102 s103 s104 s105 s106 s107 s108 s109 s110 s111 s112 s113 s114 s115 s116 s117 s118 s119 s120 s121 s122 s123 s124 s125 s126 s127 s128 s129 s130 s131 s132 s133 s134 s135 s136 s137 s138 s139 s140 s141 s142 s143 s144 s145 s146 s147 s148 s149 s150 s151 s152 s153 s154 s155 s156 s157 s158 s159 s160 s161 s162 s163 s164 s165 s166 s167 s168 s169 s170 s171 s172 s173 s174 s175 s176 s177 s178 s179 s180 s181 s182 s183 s184 s185 s186 s187 s188 s189 s190 s191 s192 : Value} {bp op c5 i nb Pl sl c2 c8 : Nat} {A2 A8 : Option Addr} {ob : Bool} (hb : bp < W.heap.size) (hn : nb < W.heap.size) (x1 : W.cell? ⟨bp, op + i * 3 + 1, none⟩ = some (.slice A2 sl c2)) (x2 : W.cell? ⟨bp, op + i * 3 + 2, none⟩ = some (.bool ob)) (y1 : W.cell? ⟨nb, 1, none⟩ = some (.slice A8 sl c8)) (y2 : W.cell? ⟨nb, 2, none⟩ = some (.bool ob)) (i1 : (i : Int) < (Pl : Int))
  (hE : ∀ u, Kp W u → Q .normal { tmps := #[s0, s1, s2, s3, s4, s5, s6, .slice (some ⟨bp, op, none⟩) Pl c5, s8, s9, s10, s11, s12, .int .i64 (i : Int), .pointer (some ⟨nb, 0, none⟩), .int .i64 0, s16, s17, s18, s19, s20, s21, s22, s23, s24, s25, s26, s27, s28, s29, s30, s31, s32, s33, s34, s35, s36, s37, s38, s39, s40, s41, s42, s43, s44, s45, s46, s47, s48, s49, s50, s51, s52, s53, s54, s55, s56, s57, s58, s59, s60, s61, s62, s63, s64, s65, s66, s67, s68, s69, s70, s71, s72, s73, s74, s75, s76, s77, s78, s79, s80, s81, s82, s83, s84, s85, s86, s87, s88, s89, s90, s91, s92, s93, s94, s95, s96, s97, s98, s99, s100, s101, s102, s103, s104, s105, s106, s107, .int .i64 0, .bool false, .bool false, .pointer (some ⟨nb, 2, none⟩), .bool ob, .slice (some ⟨bp, op, none⟩) Pl c5, .int .i64 (i : Int), .pointer (some ⟨bp, op + i * 3, none⟩), .pointer (some ⟨bp, op + i * 3 + 2, none⟩), .bool ob, .bool false, .bool false, .bool false, .pointer (some ⟨nb, 1, none⟩), .slice A8 sl c8, .int .i64 (sl : Int), .slice (some ⟨bp, op, none⟩) Pl c5, .int .i64 (i : Int), .pointer (some ⟨bp, op + i * 3, none⟩), .pointer (some ⟨bp, op + i * 3 + 1, none⟩), .slice A2 sl c2, .int .i64 (sl : Int), .bool false, .bool false, s132, s133, s134, s135, s136, s137, s138, s139, s140, s141, s142, s143, s144, s145, s146, s147, s148, s149, s150, s151, s152, s153, s154, s155, s156, s157, s158, s159, s160, s161, s162, s163, s164, s165, s166, s167, s168, s169, s170, s171, s172, s173, s174, s175, s176, s177, s178, s179, s180, s181, s182, s183, s184, s185, s186, s187, s188, s189, s190, s191, s192], defers := [] } u) :
  (Code.region 17 (regArr Try.f3 17) true).wp Try.prog Q { tmps := #[s0, s1, s2, s3, s4, s5, s6, .slice (some ⟨bp, op, none⟩) Pl c5, s8, s9, s10, s11, s12, .int .i64 (i : Int), .pointer (some ⟨nb, 0, none⟩), .int .i64 0, s16, s17, s18, s19, s20, s21, s22, s23, s24, s25, s26, s27, s28, s29, s30, s31, s32, s33, s34, s35, s36, s37, s38, s39, s40, s41, s42, s43, s44, s45, s46, s47, s48, s49, s50, s51, s52, s53, s54, s55, s56, s57, s58, s59, s60, s61, s62, s63, s64, s65, s66, s67, s68, s69, s70, s71, s72, s73, s74, s75, s76, s77, s78, s79, s80, s81, s82, s83, s84, s85, s86, s87, s88, s89, s90, s91, s92, s93, s94, s95, s96, s97, s98, s99, s100, s101, s102, s103, s104, s105, s106, s107, s108, s109, s110, s111, s112, s113, s114, s115, s116, s117, s118, s119, s120, s121, s122, s123, s124, s125, s126, s127, s128, s129, s130, s131, s132, s133, s134, s135, s136, s137, s138, s139, s140, s141, s142, s143, s144, s145, s146, s147, s148, s149, s150, s151, s152, s153, s154, s155, s156, s157, s158, s159, s160, s161, s162, s163, s164, s165, s166, s167, s168, s169, s170, s171, s172, s173, s174, s175, s176, s177, s178, s179, s180, s181, s182, s183, s184, s185, s186, s187, s188, s189, s190, s191, s192], defers := [] } W := by
 simp only [regArr, Try.f3, Option.map_some, Option.getD_some, regOf, if_true, if_false, List.append_nil, List.nil_append, List.toList_toArray, Nat.reduceEqDiff, reduceIte]
 refine wp_region_kp [[], [0], [1], [2], [2, 3], [2], [2], [2, 5, 6], [2, 7], [2, 8], [2, 4, 9], [2, 10], [11], [12], [12, 13], [12, 14], [12], [12], [12, 16, 17], [12, 18], [12, 19], [12, 20], [12, 15, 21], [12, 22]] (fun u => Kp W u)
  [eqV (.int .i64 0), eqV (.bool false), eqV (.bool false), eqV (.pointer (some ⟨nb, 2, none⟩)), eqV (.bool ob), eqV (.slice (some ⟨bp, op, none⟩) Pl c5), eqV (.int .i64 (i : Int)), eqV (.pointer (some ⟨bp, op + i * 3, none⟩)), eqV (.pointer (some ⟨bp, op + i * 3 + 2, none⟩)), eqV (.bool ob), eqV (.bool false), eqV (.bool false), eqV (.bool false), eqV (.pointer (some ⟨nb, 1, none⟩)), eqV (.slice A8 sl c8), eqV (.int .i64 (sl : Int)), eqV (.slice (some ⟨bp, op, none⟩) Pl c5), eqV (.int .i64 (i : Int)), eqV (.pointer (some ⟨bp, op + i * 3, none⟩)), eqV (.pointer (some ⟨bp, op + i * 3 + 1, none⟩)), eqV (.slice A2 sl c2), eqV (.int .i64 (sl : Int)), eqV (.bool false), eqV (.bool false)]
  (by kernel_rfl) (by kernel_rfl) (by kernel_rfl) (by kernel_rfl) ((Kp.refl _).drew) (fun _ _ hk h => h.trans hk) (by repeat' first | exact trivial | refine ⟨fun _ _ _ _ h => h, ?_⟩) ⟨?sf0, ?sf1, ?sf2, ?sf3, ?sf4, ?sf5, ?sf6, ?sf7, ?sf8, ?sf9, ?sf10, ?sf11, ?sf12, ?sf13, ?sf14, ?sf15, ?sf16, ?sf17, ?sf18, ?sf19, ?sf20, ?sf21, ?sf22, ?sf23, trivial⟩ ?hEf
 case sf0 => exact OpStepK.mv 15 (.int .i64 0) (by kernel_rfl) (free_ (by kernel_rfl)) (fun _ _ _ => by kernel_rfl) (fun _ => rfl)
 case sf1 => exact OpStepK.op1 108 (.int .i64 0) (free_ (by kernel_rfl)) (fun x _ h => Eq.trans (b := some (x 0)) (by kernel_rfl) (congrArg some h.1)) fun a u e108 hg K hK => (by go_simp; exact hK.out _ _ (Kp.refl _) rfl)
 case sf2 => exact OpStepK.mv 109 (.bool false) (by kernel_rfl) (free_ (by kernel_rfl)) (fun x _ h => Eq.trans (b := x 1) (by kernel_rfl) h.1) (fun _ => rfl)
 case sf3 => exact OpStepK.op1 14 (.pointer (some ⟨nb, 0, none⟩)) (yes_ 2 110 false (by kernel_rfl) (by kernel_rfl) (fun x _ h => Eq.trans (b := some (x 2)) (by kernel_rfl) (congrArg some h.1))) (fun _ _ _ => by kernel_rfl) fun a u e14 hg K hK => (by go_simp; exact hK.out _ _ (Kp.refl _) rfl)
 case sf4 => exact OpStepK.op1 111 (.pointer (some ⟨nb, 2, none⟩)) (yes_ 2 110 false (by kernel_rfl) (by kernel_rfl) (fun x _ h => Eq.trans (b := some (x 2)) (by kernel_rfl) (congrArg some h.1))) (fun x _ h => Eq.trans (b := some (x 3)) (by kernel_rfl) (congrArg some h.2.1)) fun a u e111 hg K hK => (by have q0 := cell_kp hg hn y2; go_simp; exact hK.out _ _ (Kp.refl _) rfl)
 case sf5 => exact OpStepK.mv 7 (.slice (some ⟨bp, op, none⟩) Pl c5) (by kernel_rfl) (yes_ 2 110 false (by kernel_rfl) (by kernel_rfl) (fun x _ h => Eq.trans (b := some (x 2)) (by kernel_rfl) (congrArg some h.1))) (fun _ _ _ => by kernel_rfl) (fun _ => rfl)
 case sf6 => exact OpStepK.mv 13 (.int .i64 (i : Int)) (by kernel_rfl) (yes_ 2 110 false (by kernel_rfl) (by kernel_rfl) (fun x _ h => Eq.trans (b := some (x 2)) (by kernel_rfl) (congrArg some h.1))) (fun _ _ _ => by kernel_rfl) (fun _ => rfl)
 case sf7 => exact OpStepK.op2 113 114 (.slice (some ⟨bp, op, none⟩) Pl c5) (.int .i64 (i : Int)) (yes_ 2 110 false (by kernel_rfl) (by kernel_rfl) (fun x _ h => Eq.trans (b := some (x 2)) (by kernel_rfl) (congrArg some h.1))) (fun x _ h => Eq.trans (b := some (x 5)) (by kernel_rfl) (congrArg some h.2.1)) (fun x _ h => Eq.trans (b := some (x 6)) (by kernel_rfl) (congrArg some h.2.2.1)) fun a u e113 e114 hg K hK => (by go_simp; exact hK.out _ _ (Kp.refl _) rfl)
 case sf8 => exact OpStepK.op1 115 (.pointer (some ⟨bp, op + i * 3, none⟩)) (yes_ 2 110 false (by kernel_rfl) (by kernel_rfl) (fun x _ h => Eq.trans (b := some (x 2)) (by kernel_rfl) (congrArg some h.1))) (fun x _ h => Eq.trans (b := some (x 7)) (by kernel_rfl) (congrArg some h.2.1)) fun a u e115 hg K hK => (by go_simp; exact hK.out _ _ (Kp.refl _) rfl)
 case sf9 => exact OpStepK.op1 116 (.pointer (some ⟨bp, op + i * 3 + 2, none⟩)) (yes_ 2 110 false (by kernel_rfl) (by kernel_rfl) (fun x _ h => Eq.trans (b := some (x 2)) (by kernel_rfl) (congrArg some h.1))) (fun x _ h => Eq.trans (b := some (x 8)) (by kernel_rfl) (congrArg some h.2.1)) fun a u e116 hg K hK => (by have q0 := cell_kp hg hb x2; go_simp; exact hK.out _ _ (Kp.refl _) rfl)
 case sf10 => exact OpStepK.op2 112 117 (.bool ob) (.bool ob) (yes_ 2 110 false (by kernel_rfl) (by kernel_rfl) (fun x _ h => Eq.trans (b := some (x 2)) (by kernel_rfl) (congrArg some h.1))) (fun x _ h => Eq.trans (b := some (x 4)) (by kernel_rfl) (congrArg some h.2.1)) (fun x _ h => Eq.trans (b := some (x 9)) (by kernel_rfl) (congrArg some h.2.2.1)) fun a u e112 e117 hg K hK => (by go_simp; exact hK.out _ _ (Kp.refl _) rfl)
 case sf11 => exact OpStepK.op2 110 118 (.bool false) (.bool false) (free_ (by kernel_rfl)) (fun x _ h => Eq.trans (b := some (x 2)) (by kernel_rfl) (congrArg some h.1)) (fun x _ h => Eq.trans (b := some (x 10)) (by kernel_rfl) (congrArg some h.2.1)) fun a u e110 e118 hg K hK => (by go_simp; exact hK.out _ _ (Kp.refl _) rfl)
 case sf12 => exact OpStepK.mv 119 (.bool false) (by kernel_rfl) (free_ (by kernel_rfl)) (fun x _ h => Eq.trans (b := x 11) (by kernel_rfl) h.1) (fun _ => rfl)
 case sf13 => exact OpStepK.op1 14 (.pointer (some ⟨nb, 0, none⟩)) (yes_ 12 120 false (by kernel_rfl) (by kernel_rfl) (fun x _ h => Eq.trans (b := some (x 12)) (by kernel_rfl) (congrArg some h.1))) (fun _ _ _ => by kernel_rfl) fun a u e14 hg K hK => (by go_simp; exact hK.out _ _ (Kp.refl _) rfl)
 case sf14 => exact OpStepK.op1 121 (.pointer (some ⟨nb, 1, none⟩)) (yes_ 12 120 false (by kernel_rfl) (by kernel_rfl) (fun x _ h => Eq.trans (b := some (x 12)) (by kernel_rfl) (congrArg some h.1))) (fun x _ h => Eq.trans (b := some (x 13)) (by kernel_rfl) (congrArg some h.2.1)) fun a u e121 hg K hK => (by have q0 := cell_kp hg hn y1; go_simp; exact hK.out _ _ (Kp.refl _) rfl)
 case sf15 => exact OpStepK.op1 122 (.slice A8 sl c8) (yes_ 12 120 false (by kernel_rfl) (by kernel_rfl) (fun x _ h => Eq.trans (b := some (x 12)) (by kernel_rfl) (congrArg some h.1))) (fun x _ h => Eq.trans (b := some (x 14)) (by kernel_rfl) (congrArg some h.2.1)) fun a u e122 hg K hK => (by go_simp; exact hK.out _ _ (Kp.refl _) rfl)
 case sf16 => exact OpStepK.mv 7 (.slice (some ⟨bp, op, none⟩) Pl c5) (by kernel_rfl) (yes_ 12 120 false (by kernel_rfl) (by kernel_rfl) (fun x _ h => Eq.trans (b := some (x 12)) (by kernel_rfl) (congrArg some h.1))) (fun _ _ _ => by kernel_rfl) (fun _ => rfl)
 case sf17 => exact OpStepK.mv 13 (.int .i64 (i : Int)) (by kernel_rfl) (yes_ 12 120 false (by kernel_rfl) (by kernel_rfl) (fun x _ h => Eq.trans (b := some (x 12)) (by kernel_rfl) (congrArg some h.1))) (fun _ _ _ => by kernel_rfl) (fun _ => rfl)
 case sf18 => exact OpStepK.op2 124 125 (.slice (some ⟨bp, op, none⟩) Pl c5) (.int .i64 (i : Int)) (yes_ 12 120 false (by kernel_rfl) (by kernel_rfl) (fun x _ h => Eq.trans (b := some (x 12)) (by kernel_rfl) (congrArg some h.1))) (fun x _ h => Eq.trans (b := some (x 16)) (by kernel_rfl) (congrArg some h.2.1)) (fun x _ h => Eq.trans (b := some (x 17)) (by kernel_rfl) (congrArg some h.2.2.1)) fun a u e124 e125 hg K hK => (by go_simp; exact hK.out _ _ (Kp.refl _) rfl)
 case sf19 => exact OpStepK.op1 126 (.pointer (some ⟨bp, op + i * 3, none⟩)) (yes_ 12 120 false (by kernel_rfl) (by kernel_rfl) (fun x _ h => Eq.trans (b := some (x 12)) (by kernel_rfl) (congrArg some h.1))) (fun x _ h => Eq.trans (b := some (x 18)) (by kernel_rfl) (congrArg some h.2.1)) fun a u e126 hg K hK => (by go_simp; exact hK.out _ _ (Kp.refl _) rfl)
 case sf20 => exact OpStepK.op1 127 (.pointer (some ⟨bp, op + i * 3 + 1, none⟩)) (yes_ 12 120 false (by kernel_rfl) (by kernel_rfl) (fun x _ h => Eq.trans (b := some (x 12)) (by kernel_rfl) (congrArg some h.1))) (fun x _ h => Eq.trans (b := some (x 19)) (by kernel_rfl) (congrArg some h.2.1)) fun a u e127 hg K hK => (by have q0 := cell_kp hg hb x1; go_simp; exact hK.out _ _ (Kp.refl _) rfl)
 case sf21 => exact OpStepK.op1 128 (.slice A2 sl c2) (yes_ 12 120 false (by kernel_rfl) (by kernel_rfl) (fun x _ h => Eq.trans (b := some (x 12)) (by kernel_rfl) (congrArg some h.1))) (fun x _ h => Eq.trans (b := some (x 20)) (by kernel_rfl) (congrArg some h.2.1)) fun a u e128 hg K hK => (by go_simp; exact hK.out _ _ (Kp.refl _) rfl)
 case sf22 => exact OpStepK.op2 123 129 (.int .i64 (sl : Int)) (.int .i64 (sl : Int)) (yes_ 12 120 false (by kernel_rfl) (by kernel_rfl) (fun x _ h => Eq.trans (b := some (x 12)) (by kernel_rfl) (congrArg some h.1))) (fun x _ h => Eq.trans (b := some (x 15)) (by kernel_rfl) (congrArg some h.2.1)) (fun x _ h => Eq.trans (b := some (x 21)) (by kernel_rfl) (congrArg some h.2.2.1)) fun a u e123 e129 hg K hK => (by go_simp; exact hK.out _ _ (Kp.refl _) rfl)
 case sf23 => exact OpStepK.op2 120 130 (.bool false) (.bool false) (free_ (by kernel_rfl)) (fun x _ h => Eq.trans (b := some (x 12)) (by kernel_rfl) (congrArg some h.1)) (fun x _ h => Eq.trans (b := some (x 22)) (by kernel_rfl) (congrArg some h.2.1)) fun a u e120 e130 hg K hK => (by go_simp; exact hK.out _ _ (Kp.refl _) rfl)
 intro x u hg he
 obtain ⟨d0, d1, d2, d3, d4, d5, d6, d7, d8, d9, d10, d11, d12, d13, d14, d15, d16, d17, d18, d19, d20, d21, d22, d23, -⟩ := he
 refine ⟨?_⟩
 simp only [putsFrom, Act.put, List.setIfInBounds_toArray, List.set_cons_zero, List.set_cons_succ, Nat.reduceAdd, d0, d1, d2, d3, d4, d5, d6, d7, d8, d9, d10, d11, d12, d13, d14, d15, d16, d17, d18, d19, d20, d21, d22, d23]
 clear d0 d1 d2 d3 d4 d5 d6 d7 d8 d9 d10 d11 d12 d13 d14 d15 d16 d17 d18 d19 d20 d21 d22 d23
 exact hE _ hg
theorem e14 {W : World} {Q : Exit → Act → World → Prop} {s0 s1 s2 s3 s4 s5 s6 s8 s9 s10 s11 s12 s14 s15 s16 s17 s18 s19 s20 s21 s22 s23 s24 s25 s26 s27 s28 s29 s30 s31 s32 s33 s34 s35 s36 s37 s38 s39 s40 s41 s42 s43 s44 s45 s46 s47 s48 s49 s50 s51 s52 s53 s54 s55 s56 s57 s58 s59 s60 s61 s62 s63 s64 s65 s66 s67 s68 s69 s70 s71 s72 s73 s74 s75 s76 s77 s78 s79 s80 s81 s82 s83 s84 s85 s86 s87 s88 s89 s90 s91 s92 s93 s94 s95 s96 s97 s98 s99 s100 s101 s102 s103 s104 s105 s106 s107 s108 s109 s110 s111 s112 s113 s114 s115 s116 s117 s118 s119 s120 s121 s122 s123 s124 s125 s126 s127 s128 s129 s130 s131 s132 s133 s134 s135 s136 s137 s138 s139 s140 s141 s142 s143 s144 s145 s146 s147 s148 s149 s150 s151 s152 s153 s154 s155 s156 s157 s158 s159 s160 s161 s162 s163 s164 s165 s166 s167 s168 s169 s170 s171 s172 s173 s174 s175 s176 s177 s178 s179 s180 s181 s182 s183 s184 s185 s186 s187 s188 s189 s190 s191 s192 : Value} {bp op c5 i pn Pl sl c2 : Nat} {A2 : Option Addr} {ob : Bool} (hb : bp < W.heap.size) (x0 : W.cell? ⟨bp, op + i * 3, none⟩ = some (.int .i64 (pn : Int))) (x1 : W.cell? ⟨bp, op + i * 3 + 1, none⟩ = some (.slice A2 sl c2)) (x2 : W.cell? ⟨bp, op + i * 3 + 2, none⟩ = some (.bool ob)) (i1 : (i : Int) < (Pl : Int)) (hd : (¬ (0 : Int) < (i : Int)) ∨ ((0 : Int) < (i : Int) ∧ ∃ (z nd : Nat), IntKind.i64.wrap ((i : Int) - 1) = (z : Int) ∧ (z : Int) < (Pl : Int) ∧ W.cell? ⟨bp, op + z * 3, none⟩ = some (.int .i64 (nd : Int)) ∧ ¬ (pn : Int) ≤ (nd : Int))) (ho : ob = false ∨ (ob = true ∧ ¬ (8 : Int) < (sl : Int)))
  (hE : ∀ (y66 y67 y68 y69 y70 y71 y72 y73 y74 y75 y76 y77 y78 y79 y80 y81 y82 y83 y84 y85 y86 y87 y88 y89 y90 y91 y92 y93 y94 y95 y96 : Value) (u : World), Kp W u → Q .normal { tmps := #[s0, s1, s2, s3, s4, s5, s6, .slice (some ⟨bp, op, none⟩) Pl c5, s8, s9, s10, s11, s12, .int .i64 (i : Int), s14, s15, s16, s17, s18, s19, s20, s21, s22, s23, s24, s25, s26, s27, s28, s29, s30, s31, s32, s33, s34, s35, s36, s37, s38, s39, s40, s41, s42, s43, s44, s45, s46, s47, s48, s49, s50, s51, s52, s53, s54, s55, s56, s57, s58, s59, s60, s61, s62, s63, s64, s65, y66, y67, y68, y69, y70, y71, y72, y73, y74, y75, y76, y77, y78, y79, y80, y81, y82, y83, y84, y85, y86, y87, y88, y89, y90, y91, y92, y93, y94, y95, y96, .bool false, s98, s99, s100, s101, s102, s103, s104, s105, s106, s107, s108, s109, s110, s111, s112, s113, s114, s115, s116, s117, s118, s119, s120, s121, s122, s123, s124, s125, s126, s127, s128, s129, s130, s131, s132, s133, s134, s135, s136, s137, s138, s139, s140, s141, s142, s143, s144, s145, s146, s147, s148, s149, s150, s151, s152, s153, s154, s155, s156, s157, s158, s159, s160, s161, s162, s163, s164, s165, s166, s167, s168, s169, s170, s171, s172, s173, s174, s175, s176, s177, s178, s179, s180, s181, s182, s183, s184, s185, s186, s187, s188, s189, s190, s191, s192], defers := [] } u) :
  (Code.region 14 (regArr Try.f3 14) true).wp Try.prog Q { tmps := #[s0, s1, s2, s3, s4, s5, s6, .slice (some ⟨bp, op, none⟩) Pl c5, s8, s9, s10, s11, s12, .int .i64 (i : Int), s14, s15, s16, s17, s18, s19, s20, s21, s22, s23, s24, s25, s26, s27, s28, s29, s30, s31, s32, s33, s34, s35, s36, s37, s38, s39, s40, s41, s42, s43, s44, s45, s46, s47, s48, s49, s50, s51, s52, s53, s54, s55, s56, s57, s58, s59, s60, s61, s62, s63, s64, s65, s66, s67, s68, s69, s70, s71, s72, s73, s74, s75, s76, s77, s78, s79, s80, s81, s82, s83, s84, s85, s86, s87, s88, s89, s90, s91, s92, s93, s94, s95, s96, s97, s98, s99, s100, s101, s102, s103, s104, s105, s106, s107, s108, s109, s110, s111, s112, s113, s114, s115, s116, s117, s118, s119, s120, s121, s122, s123, s124, s125, s126, s127, s128, s129, s130, s131, s132, s133, s134, s135, s136, s137, s138, s139, s140, s141, s142, s143, s144, s145, s146, s147, s148, s149, s150, s151, s152, s153, s154, s155, s156, s157, s158, s159, s160, s161, s162, s163, s164, s165, s166, s167, s168, s169, s170, s171, s172, s173, s174, s175, s176, s177, s178, s179, s180, s181, s182, s183, s184, s185, s186, s187, s188, s189, s190, s191, s192], defers := [] } W := by
 rcases hd with d | ⟨d, z, nd, d1, d2, d3, d4⟩ <;> rcases ho with rfl | ⟨rfl, ho8⟩
 ·exact e14nf (c5 := c5) hb x0 x1 x2 i1 (by omega) (fun u hu => hE _ _ _ _ _ _ _ _ _ _ _ _ _ _ _ _ _ _ _ _ _ _ _ _ _ _ _ _ _ _ _ u hu)
 ·exact e14nt (c5 := c5) hb x0 x1 x2 i1 (by omega) ho8 (fun u hu => hE _ _ _ _ _ _ _ _ _ _ _ _ _ _ _ _ _ _ _ _ _ _ _ _ _ _ _ _ _ _ _ u hu)
 ·exact e14pf (c5 := c5) hb x0 x1 x2 i1 (by omega) d1 d2 d3 d4 (fun u hu => hE _ _ _ _ _ _ _ _ _ _ _ _ _ _ _ _ _ _ _ _ _ _ _ _ _ _ _ _ _ _ _ u hu)
 ·exact e14pt (c5 := c5) hb x0 x1 x2 i1 (by omega) d1 d2 d3 d4 ho8 (fun u hu => hE _ _ _ _ _ _ _ _ _ _ _ _ _ _ _ _ _ _ _ _ _ _ _ _ _ _ _ _ _ _ _ u hu)
theorem meas_dn {a b : Nat} (h : a < b) : b - (intOf (.int .i64 ((a + 1 : Nat) : Int))).toNat < b - (intOf (.int .i64 (a : Int))).toNat := Pa.meas_up h
theorem walk (a0 : ByteArray) (w : World) (w0 : a0.size ≤ 140737488351232) :
  Calls Try.prog 3 #[.string a0] w fun e w' => e = .returned (.bool true) ∧ Kp w w' := by
 obtain ⟨t1, h1, hone, hp1⟩ := one_tre
 have HTR1 := hid h1; have HONE := hid hone; have HP1 := hid hp1
 clear h1 hone hp1
 go_enter Try.func3, Try.ntmps3
 go_upto_region 2 with (go_at_call 4; go_must (refine (parse_tre _ a0 w0).mono ?_); rintro e w1 ⟨⟨v, cd, x1, y1, rfl, hv⟩, hk1⟩)
 have hsp := blk_new w1 (.cells #[.int .i64 cd, .int .i64 x1, .int .i64 y1] 25)
 have hkw := (Kp.refl w1).alloc (.cells #[.int .i64 cd, .int .i64 x1, .int .i64 y1] 25)
 have HK2 := hid (hk1.trans hkw)
 have HKA := hid hkw
 have HV := hid hv
 generalize w1.alloc _ = W2 at hsp HK2 HKA ⊢
 generalize w1.heap.size = sp at hsp ⊢
 have HSP := hid hsp
 clear hsp hkw hk1 hv w0
 go_upto_region 3 with (go_at_call 4; go_must (refine (HP1.out _).mono ?_); rintro e w3 ⟨⟨v1, rfl, ho1⟩, hk3⟩)
 have hkb := (Kp.refl w3).alloc (.cells #[.int .i64 0, .int .i64 0, .int .i64 0] 25)
 have HK4 := hid (HK2.out.trans (hk3.trans hkb))
 have HKV := hid (HKA.out.trans (hk3.trans hkb))
 have HRD1 := hid ((parO_rd ho1).kp CeNode.kp hkb)
 have c0 := blk_cell (o := 0) (((hk3.trans hkb).block _ (blk_lt HSP.out)).trans HSP.out) rfl
 generalize w3.alloc _ = W4 at HK4 HKV HRD1 c0 ⊢
 clear hk3 hkb ho1 HSP HKA HK2
 rcases HV.out with ⟨hc, rfl⟩ | ⟨rfl, t, ht, ho⟩
 ·have a1 : (cd != 0) = true := bne_iff_ne.2 hc
  obtain ⟨t, ht⟩ : ∃ t, t = t1 := ⟨_, rfl⟩
  have HTR := hid (show Tre t by rw [ht]; exact HTR1.out)
  have HRD := hid (show RdL CeNode 5 W4 v1 (flat 0 t) by rw [ht]; exact HRD1.out)
  clear ht hc HV
  go_upto_region 5 with fail
  clear c0 a1
  obtain ⟨A, c, hfm, _⟩ := HRD.out.form
  subst hfm
  have HPF := hid (pl_facts HTR.out)
  go_upto_region 6 with (go_at_call 5; go_must (refine (plans_any HRD.out HTR.out.size (HTR.out.good HRD.out)).mono ?_); rintro e w5 ⟨⟨pv, rfl, hp5⟩, hk5⟩)
  have HK5 := hid (HK4.out.trans hk5)
  have HRD5 := hid (HRD.out.kp CeNode.kp hk5)
  have HRD15 := hid (HRD1.out.kp CeNode.kp hk5)
  have HP5 := hid hp5
  clear hp5 hk5
  go_upto_region 7 with (go_at_call 5; go_must (refine (plans_any HRD15.out HTR1.out.size (HTR1.out.good HRD15.out)).mono ?_); rintro e w6 ⟨⟨xv, rfl, hp6⟩, hk6⟩)
  have HK6 := hid (HK5.out.trans hk6)
  have HRD6 := hid (HRD5.out.kp CeNode.kp hk6)
  have HP6 := hid (OwnL.kp CePl.kp HP5.out hk6)
  obtain ⟨p1, hP1, hs1⟩ := one_pl HONE.out
  have hq1 := (pl_facts HTR1.out).at_ 0 p1 (by rw [hP1]; rfl)
  have hl1 := (pl_facts HTR1.out).len
  rw [hP1] at hp6
  obtain ⟨xs6, ho6, _⟩ := id hp6
  rw [show ([p1] : List PlM).length = 1 from rfl] at ho6
  obtain ⟨A6, c6, rfl⟩ := own_form ho6
  obtain ⟨b6, o6, A7, c7, rfl, hb6, e0, e1, e2, er⟩ := plrow_at hp6 (i := 0) (p := p1) rfl (by omega) (fun k hk => by have := (hq1.2.2.1 k hk).1; have := hq1.1; omega)
  simp only [Nat.zero_mul, Nat.add_zero] at e0 e1 e2
  rw [hs1] at e1
  obtain ⟨xs5, ho5, _⟩ := id HP6.out
  obtain ⟨A5, c5, rfl⟩ := own_form ho5
  have HGC := hid (show GoodC w6 (.slice A (flat 0 t).length c) from fun u hu => HTR.out.good HRD6.out u hu)
  clear hq1 hl1 hp6 ho6 ho5 hb6 e0 e2 er hk6 hP1 hs1 HP5 HRD5 HRD15 HRD1 HRD HK5 HK4 HTR HTR1 HONE HP1
  generalize plansOf (flatP 0 t) = P at HPF HP6 ⊢
  generalize flat 0 t = L at HPF HRD6 HGC ⊢
  go_upto_region 9 with fail
  obtain ⟨j0, hT2, hi, hz, hz1', hz2, _, _⟩ := elInt
  have hll := HPF.out.len
  have HL := hid hll
  have hmk : ∀ u : World, (Instr.makeSlice 31 (.int .i64 (L.length : Int)) (.int .i64 (L.length : Int))).run Try.prog u =
    .ok (.slice (some ⟨u.heap.size, 0, none⟩) L.length L.length) (u.alloc (.cells (madeCells #[.int .i64 0] L.length) 3)) := fun u => by
   have h := run_make (P := Try.prog) u 31 3 j0 (.int .i64 0) hT2 hi hz .i64 .i64 (L.length : Int) (L.length : Int) (by omega) (Int.le_refl _) (by rw [hz2]; omega) (by omega)
   simpa [hz1', Value.cells] using h
  have HS0 := hid (SeenR.made w6 L.length (by unfold maxLen; omega))
  have HK9 := hid ((Kp.refl w6).alloc (.cells (madeCells #[.int .i64 0] L.length) 3))
  clear hT2 hi hz hz1' hz2 hll e1
  go_upto_region 10 with fail
  generalize w6.alloc _ = W9 at HS0 HK9 ⊢
  obtain ⟨g, hg⟩ : ∃ g, w6.heap.size = g := ⟨_, rfl⟩
  have HG := hid hg
  rw [hg] at HS0 ⊢
  clear hg hmk
  go_wp2_with fail
  go_loopw [12, 13] (fun mv iv wr => ∃ i : Nat, i ≤ P.length ∧ iv = .int .i64 (i : Int) ∧ mv = .int .i64 (((sitesOf (P.take i)).length : Nat) : Int) ∧ SeenR wr g g L.length (sitesOf (P.take i)) ∧ Kp w6 wr) (fun _ iv _ => P.length - (intOf iv).toNat)
  case atStart => exact ⟨0, Nat.zero_le _, rfl, rfl, HS0.out, HK9.out⟩
  case round =>
   obtain ⟨i, hi, rfl, rfl, hs, hk⟩ := hrel
   clear HS0 HK9
   have HS := hid hs; have HK := hid hk
   by_cases hl : i < P.length
   ·have i1 : (i : Int) < (P.length : Int) := by omega
    have HI := hid hl
    obtain ⟨p, hp⟩ : ∃ p, P[i]? = some p := ⟨_, List.getElem?_eq_getElem hl⟩
    have hq := HPF.out.at_ i p hp
    have HQ := hid hq; have HP := hid hp
    obtain ⟨bp, op, A2, c2, rfl, hbp, r0, r1, r2, rr⟩ := plrow_at HP6.out hp hq.2.1 (fun k hk => by have := (hq.2.2.1 k hk).1; have := hq.1; have := HL.out; omega)
    have HR0 := hid r0; have HRR := hid rr; have HBP := hid hbp; have HR1 := hid r1; have HR2 := hid r2
    have hpl : P.length ≤ 1000000 := by
     rcases Nat.lt_or_ge 1000000 P.length with h | h
     ·have := HPF.out.bound; omega
     ·exact h
    have hdis : (¬ (0 : Int) < (i : Int)) ∨ ((0 : Int) < (i : Int) ∧ ∃ (z nd : Nat), IntKind.i64.wrap ((i : Int) - 1) = (z : Int) ∧ (z : Int) < (P.length : Int) ∧ wr.cell? ⟨bp, op + z * 3, none⟩ = some (.int .i64 (nd : Int)) ∧ ¬ (p.node : Int) ≤ (nd : Int)) := by
     cases i with
     | zero => left; simp
     | succ z =>
      right
      obtain ⟨p0, hp0⟩ : ∃ p0, P[z]? = some p0 := ⟨_, List.getElem?_eq_getElem (by omega)⟩
      have hq0 := HPF.out.at_ z p0 hp0
      obtain ⟨bq, oq, A3, c3, he, _, s0, _, _, _⟩ := plrow_at HP6.out hp0 hq0.2.1 (fun k hk => by have := (hq0.2.2.1 k hk).1; have := hq0.1; have := HL.out; omega)
      injection he with he
      injection he with he1 he2
      subst he1 he2
      have := HPF.out.sort z p0 p hp0 hp
      refine ⟨by omega, z, p0.node, by rw [IntKind.wrap_i64]; omega, by omega, cell_kp HK.out HBP.out s0, by omega⟩
    have hop : p.opn = false ∨ (p.opn = true ∧ ¬ (8 : Int) < (p.sites.length : Int)) := by
     cases ho : p.opn with
     | false => exact .inl rfl
     | true => exact .inr ⟨rfl, by have := hq.2.2.2 ho; omega⟩
    have HDIS := hid hdis; have HOP := hid hop
    have r0 := cell_kp hk hbp r0
    have r1 := cell_kp hk hbp r1
    have r2 := cell_kp hk hbp r2
    have k1 : IntKind.i64.wrap ((i : Int) + 1) = ((i + 1 : Nat) : Int) := by rw [IntKind.wrap_i64]; omega
    have HW1 := hid k1
    have HSC := hid fun (u : World) (hu : Kp wr u) => sites_call (HRD6.out.kp CeNode.kp (hk.trans hu)) HPF.out hp (fun x hx => HGC.out x ((hk.trans hu).trans hx))
    have HCN := hid HPF.out.cnt
    clear hi hl hp hq hs hk rr hbp hdis hop hpl k1
    have HBW := hid (Nat.lt_of_lt_of_le HBP.out HK.out.le)
    go_upto_region 14 with fail
    refine e14 (pn := p.node) (sl := p.sites.length) (ob := p.opn) HBW.out r0 r1 r2 i1 HDIS.out HOP.out (fun y66 y67 y68 y69 y70 y71 y72 y73 y74 y75 y76 y77 y78 y79 y80 y81 y82 y83 y84 y85 y86 y87 y88 y89 y90 y91 y92 y93 y94 y95 y96 u14 hg14 => ?_)
    ·skip
     have HG14 := hid hg14
     have r0 := cell_kp hg14 HBW.out r0
     clear r1 r2 hg14
     go_upto_region 17 with (go_at_call 6; go_must (refine (HSC.out _ HG14.out).mono ?_); rintro e w7 ⟨⟨A8, c8, rfl⟩, hk7⟩)
     have hnb := blk_new w7 (.cells #[.int .i64 (p.node : Int), .slice A8 p.sites.length c8, .bool p.opn] 33)
     have hkw := (HG14.out.trans hk7).trans ((Kp.refl w7).alloc (.cells #[.int .i64 (p.node : Int), .slice A8 p.sites.length c8, .bool p.opn] 33))
     have hnl := blk_lt hnb
     generalize w7.alloc _ = W8 at hnb hkw hnl ⊢
     generalize w7.heap.size = nb at hnb hnl ⊢
     have y1 := blk_cell (o := 1) hnb rfl
     have y2 := blk_cell (o := 2) hnb rfl
     have r1 := cell_kp (HK.out.trans hkw) HBP.out HR1.out
     have r2 := cell_kp (HK.out.trans hkw) HBP.out HR2.out
     have HKW := hid hkw
     have hbw := Nat.lt_of_lt_of_le HBW.out hkw.le
     clear hk7 hkw hnb
     refine e17 hbw hnl r1 r2 y1 y2 i1 (fun u17 hg17 => ?_)
     have HKW := hid (HKW.out.trans hg17)
     have r1 := cell_kp hg17 hbw r1
     clear y1 y2 r2 r0 hg17 hnl hbw
     go_upto_region 19 with fail
     go_wp2_with fail
     go_loopw [12, 138] (fun mv jv ws => ∃ j : Nat, j ≤ p.sites.length ∧ jv = .int .i64 (j : Int) ∧ mv = .int .i64 (((sitesOf (P.take i)).length + j : Nat) : Int) ∧ SeenR ws g g L.length (sitesOf (P.take i) ++ p.sites.take j) ∧ Kp w6 ws) (fun _ jv _ => p.sites.length - (intOf jv).toNat)
     case atStart => exact ⟨0, Nat.zero_le _, rfl, rfl, by have h := HS.out.kp HKW.out; simpa using h, HK.out.trans HKW.out⟩
     case round =>
      obtain ⟨j, hj, rfl, rfl, hs2, hk2⟩ := hrel
      have HS2 := hid hs2; have HK2 := hid hk2
      clear r1
      by_cases hlj : j < p.sites.length
      ·have j1 : (j : Int) < (p.sites.length : Int) := by omega
       have HJ := hid hlj
       obtain ⟨k, hkk⟩ : ∃ k, p.sites[j]? = some k := ⟨_, List.getElem?_eq_getElem hlj⟩
       have hkm : k ∈ p.sites := List.mem_of_getElem? hkk
       obtain ⟨q1, m, hm, hm15⟩ := HQ.out.2.2.1 k hkm
       have hkl : k < L.length := (List.getElem?_eq_some_iff.1 hm).1
       obtain ⟨sb, so, rfl, hsb, z1⟩ := nat_at (HRR.out.kp hk2) hkk
       obtain ⟨bt, off, rfl, hbt, lk, t0, _⟩ := at_node HRD6.out hm
       have t0 := cell_kp hk2 hbt t0
       rw [hm15] at t0
       have r0 := cell_kp hk2 HBP.out HR0.out
       obtain ⟨v0, f0⟩ := hs2.at_ hkl (site_new HPF.out.nodup HP.out hkk)
       have HST := hid (hs2.set hkl)
       have HKK := hid hkk
       have j2 : ¬ (k : Int) < 0 := by omega
       have j3 : ¬ (p.node : Int) ≤ (k : Int) := by omega
       have j4 : (k : Int) < (L.length : Int) := by omega
       have hb1 := sites_take P (i + 1)
       rw [sites_next HP.out, List.length_append, HCN.out] at hb1
       have hb2 := c15_le L
       have hb3 := HL.out
       have k1 : IntKind.i64.wrap ((j : Int) + 1) = ((j + 1 : Nat) : Int) := by rw [IntKind.wrap_i64]; omega
       obtain ⟨sn, hsn⟩ : ∃ sn, (sitesOf (P.take i)).length + j = sn := ⟨_, rfl⟩
       have k2 : IntKind.i64.wrap ((sn : Int) + 1) = ((sn + 1 : Nat) : Int) := by rw [IntKind.wrap_i64]; omega
       have HSN := hid hsn
       have hgl := Nat.le_of_eq HG.out
       rw [hsn]
       clear hj hlj hs2 hk2 hkm hm hm15 hkl hb1 hb2 hb3 hsn hkk q1
       go_wp2
       refine ⟨⟨j + 1, HJ.out, rfl, by rw [← Nat.add_assoc, HSN.out]; rfl, by rw [List.take_add_one, HKK.out, ← List.append_assoc]; exact HST.out, HK2.out.setCell (p := ⟨g, k, none⟩) hgl _⟩, meas_dn HJ.out⟩
      ·have j1 : ¬ (j : Int) < (p.sites.length : Int) := by omega
       obtain rfl : j = p.sites.length := by omega
       have k1 := HW1.out
       clear hj hlj hs2 hk2
       go_wp2
       refine ⟨⟨i + 1, HI.out, rfl, by rw [sites_next HP.out, List.length_append], by have h := HS2.out; rw [List.take_length, ← sites_next HP.out] at h; exact h, HK2.out⟩, meas_dn HI.out⟩
   ·have i1 : ¬ (i : Int) < (P.length : Int) := by omega
    have HT := hid (show P.take i = P by rw [List.take_of_length_le]; omega)
    rw [HT.out, HPF.out.cnt]
    clear hi hl hs hk
    go_wp2_with fail
    go_loopw [12, 18] (fun mv iv ws => ∃ j : Nat, j ≤ L.length ∧ iv = .int .i64 (j : Int) ∧ mv = .int .i64 (((c15 L - c15 (L.take j) : Nat)) : Int) ∧ Kp w6 ws) (fun _ iv _ => L.length - (intOf iv).toNat)
    case atStart => exact ⟨0, Nat.zero_le _, rfl, by simp [c15], HK.out⟩
    case round =>
     obtain ⟨j, hj, rfl, rfl, hk2⟩ := hrel
     have HK2 := hid hk2
     by_cases hlj : j < L.length
     ·have j1 : (j : Int) < (L.length : Int) := by omega
      have HJ := hid hlj
      obtain ⟨m, hm⟩ : ∃ m, L[j]? = some m := ⟨_, List.getElem?_eq_getElem hlj⟩
      obtain ⟨bt, off, rfl, hbt, lk, t0, _⟩ := at_node HRD6.out hm
      have t0 := cell_kp hk2 hbt t0
      have hnx := c15_next hm
      have hb1 := c15_take L (j + 1)
      have hb2 := c15_le L
      have hb3 := HL.out
      have k1 : IntKind.i64.wrap ((j : Int) + 1) = ((j + 1 : Nat) : Int) := by rw [IntKind.wrap_i64]; omega
      by_cases h15 : m.kind = 15
      ·rw [if_pos h15] at hnx
       rw [h15] at t0
       obtain ⟨sn, hsn⟩ : ∃ sn, c15 L - c15 (L.take j) = sn := ⟨_, rfl⟩
       have k2 : IntKind.i64.wrap ((sn : Int) - 1) = ((sn - 1 : Nat) : Int) := by rw [IntKind.wrap_i64]; omega
       have HSN := hid (show sn - 1 = c15 L - c15 (L.take (j + 1)) by omega)
       rw [hsn]
       clear hj hlj hm h15 hnx hb1 hb2 hb3 hsn hk2
       go_wp2
       exact ⟨⟨j + 1, HJ.out, rfl, by rw [HSN.out], HK2.out⟩, meas_dn HJ.out⟩
      ·rw [if_neg h15, Nat.add_zero] at hnx
       have a15 : (m.kind == 15) = false := beq_eq_false_iff_ne.2 h15
       have HNX := hid hnx
       clear hj hlj hm h15 hnx hb1 hb2 hb3 hk2
       go_wp2
       exact ⟨⟨j + 1, HJ.out, rfl, congrArg (fun n : Nat => Value.int .i64 (n : Int)) (by have := HNX.out; omega), HK2.out⟩, meas_dn HJ.out⟩
     ·have j1 : ¬ (j : Int) < (L.length : Int) := by omega
      have h0 : c15 L - c15 (L.take j) = 0 := by rw [List.take_of_length_le (by omega)]; omega
      rw [h0]
      clear hj hlj hk2 h0
      go_wp2
      go_ret
      exact ⟨by simp, HK6.out.trans HK2.out⟩
 ·have HTR := hid ht
  have HRD := hid ((parO_rd ho).kp CeNode.kp HKV.out)
  clear ht ho HV
  go_upto_region 5 with fail
  clear c0
  obtain ⟨A, c, hfm, _⟩ := HRD.out.form
  subst hfm
  have HPF := hid (pl_facts HTR.out)
  go_upto_region 6 with (go_at_call 5; go_must (refine (plans_any HRD.out HTR.out.size (HTR.out.good HRD.out)).mono ?_); rintro e w5 ⟨⟨pv, rfl, hp5⟩, hk5⟩)
  have HK5 := hid (HK4.out.trans hk5)
  have HRD5 := hid (HRD.out.kp CeNode.kp hk5)
  have HRD15 := hid (HRD1.out.kp CeNode.kp hk5)
  have HP5 := hid hp5
  clear hp5 hk5
  go_upto_region 7 with (go_at_call 5; go_must (refine (plans_any HRD15.out HTR1.out.size (HTR1.out.good HRD15.out)).mono ?_); rintro e w6 ⟨⟨xv, rfl, hp6⟩, hk6⟩)
  have HK6 := hid (HK5.out.trans hk6)
  have HRD6 := hid (HRD5.out.kp CeNode.kp hk6)
  have HP6 := hid (OwnL.kp CePl.kp HP5.out hk6)
  obtain ⟨p1, hP1, hs1⟩ := one_pl HONE.out
  have hq1 := (pl_facts HTR1.out).at_ 0 p1 (by rw [hP1]; rfl)
  have hl1 := (pl_facts HTR1.out).len
  rw [hP1] at hp6
  obtain ⟨xs6, ho6, _⟩ := id hp6
  rw [show ([p1] : List PlM).length = 1 from rfl] at ho6
  obtain ⟨A6, c6, rfl⟩ := own_form ho6
  obtain ⟨b6, o6, A7, c7, rfl, hb6, e0, e1, e2, er⟩ := plrow_at hp6 (i := 0) (p := p1) rfl (by omega) (fun k hk => by have := (hq1.2.2.1 k hk).1; have := hq1.1; omega)
  simp only [Nat.zero_mul, Nat.add_zero] at e0 e1 e2
  rw [hs1] at e1
  obtain ⟨xs5, ho5, _⟩ := id HP6.out
  obtain ⟨A5, c5, rfl⟩ := own_form ho5
  have HGC := hid (show GoodC w6 (.slice A (flat 0 t).length c) from fun u hu => HTR.out.good HRD6.out u hu)
  clear hq1 hl1 hp6 ho6 ho5 hb6 e0 e2 er hk6 hP1 hs1 HP5 HRD5 HRD15 HRD1 HRD HK5 HK4 HTR HTR1 HONE HP1
  generalize plansOf (flatP 0 t) = P at HPF HP6 ⊢
  generalize flat 0 t = L at HPF HRD6 HGC ⊢
  go_upto_region 9 with fail
  obtain ⟨j0, hT2, hi, hz, hz1', hz2, _, _⟩ := elInt
  have hll := HPF.out.len
  have HL := hid hll
  have hmk : ∀ u : World, (Instr.makeSlice 31 (.int .i64 (L.length : Int)) (.int .i64 (L.length : Int))).run Try.prog u =
    .ok (.slice (some ⟨u.heap.size, 0, none⟩) L.length L.length) (u.alloc (.cells (madeCells #[.int .i64 0] L.length) 3)) := fun u => by
   have h := run_make (P := Try.prog) u 31 3 j0 (.int .i64 0) hT2 hi hz .i64 .i64 (L.length : Int) (L.length : Int) (by omega) (Int.le_refl _) (by rw [hz2]; omega) (by omega)
   simpa [hz1', Value.cells] using h
  have HS0 := hid (SeenR.made w6 L.length (by unfold maxLen; omega))
  have HK9 := hid ((Kp.refl w6).alloc (.cells (madeCells #[.int .i64 0] L.length) 3))
  clear hT2 hi hz hz1' hz2 hll e1
  go_upto_region 10 with fail
  generalize w6.alloc _ = W9 at HS0 HK9 ⊢
  obtain ⟨g, hg⟩ : ∃ g, w6.heap.size = g := ⟨_, rfl⟩
  have HG := hid hg
  rw [hg] at HS0 ⊢
  clear hg hmk
  go_wp2_with fail
  go_loopw [12, 13] (fun mv iv wr => ∃ i : Nat, i ≤ P.length ∧ iv = .int .i64 (i : Int) ∧ mv = .int .i64 (((sitesOf (P.take i)).length : Nat) : Int) ∧ SeenR wr g g L.length (sitesOf (P.take i)) ∧ Kp w6 wr) (fun _ iv _ => P.length - (intOf iv).toNat)
  case atStart => exact ⟨0, Nat.zero_le _, rfl, rfl, HS0.out, HK9.out⟩
  case round =>
   obtain ⟨i, hi, rfl, rfl, hs, hk⟩ := hrel
   clear HS0 HK9
   have HS := hid hs; have HK := hid hk
   by_cases hl : i < P.length
   ·have i1 : (i : Int) < (P.length : Int) := by omega
    have HI := hid hl
    obtain ⟨p, hp⟩ : ∃ p, P[i]? = some p := ⟨_, List.getElem?_eq_getElem hl⟩
    have hq := HPF.out.at_ i p hp
    have HQ := hid hq; have HP := hid hp
    obtain ⟨bp, op, A2, c2, rfl, hbp, r0, r1, r2, rr⟩ := plrow_at HP6.out hp hq.2.1 (fun k hk => by have := (hq.2.2.1 k hk).1; have := hq.1; have := HL.out; omega)
    have HR0 := hid r0; have HRR := hid rr; have HBP := hid hbp; have HR1 := hid r1; have HR2 := hid r2
    have hpl : P.length ≤ 1000000 := by
     rcases Nat.lt_or_ge 1000000 P.length with h | h
     ·have := HPF.out.bound; omega
     ·exact h
    have hdis : (¬ (0 : Int) < (i : Int)) ∨ ((0 : Int) < (i : Int) ∧ ∃ (z nd : Nat), IntKind.i64.wrap ((i : Int) - 1) = (z : Int) ∧ (z : Int) < (P.length : Int) ∧ wr.cell? ⟨bp, op + z * 3, none⟩ = some (.int .i64 (nd : Int)) ∧ ¬ (p.node : Int) ≤ (nd : Int)) := by
     cases i with
     | zero => left; simp
     | succ z =>
      right
      obtain ⟨p0, hp0⟩ : ∃ p0, P[z]? = some p0 := ⟨_, List.getElem?_eq_getElem (by omega)⟩
      have hq0 := HPF.out.at_ z p0 hp0
      obtain ⟨bq, oq, A3, c3, he, _, s0, _, _, _⟩ := plrow_at HP6.out hp0 hq0.2.1 (fun k hk => by have := (hq0.2.2.1 k hk).1; have := hq0.1; have := HL.out; omega)
      injection he with he
      injection he with he1 he2
      subst he1 he2
      have := HPF.out.sort z p0 p hp0 hp
      refine ⟨by omega, z, p0.node, by rw [IntKind.wrap_i64]; omega, by omega, cell_kp HK.out HBP.out s0, by omega⟩
    have hop : p.opn = false ∨ (p.opn = true ∧ ¬ (8 : Int) < (p.sites.length : Int)) := by
     cases ho : p.opn with
     | false => exact .inl rfl
     | true => exact .inr ⟨rfl, by have := hq.2.2.2 ho; omega⟩
    have HDIS := hid hdis; have HOP := hid hop
    have r0 := cell_kp hk hbp r0
    have r1 := cell_kp hk hbp r1
    have r2 := cell_kp hk hbp r2
    have k1 : IntKind.i64.wrap ((i : Int) + 1) = ((i + 1 : Nat) : Int) := by rw [IntKind.wrap_i64]; omega
    have HW1 := hid k1
    have HSC := hid fun (u : World) (hu : Kp wr u) => sites_call (HRD6.out.kp CeNode.kp (hk.trans hu)) HPF.out hp (fun x hx => HGC.out x ((hk.trans hu).trans hx))
    have HCN := hid HPF.out.cnt
    clear hi hl hp hq hs hk rr hbp hdis hop hpl k1
    have HBW := hid (Nat.lt_of_lt_of_le HBP.out HK.out.le)
    go_upto_region 14 with fail
    refine e14 (pn := p.node) (sl := p.sites.length) (ob := p.opn) HBW.out r0 r1 r2 i1 HDIS.out HOP.out (fun y66 y67 y68 y69 y70 y71 y72 y73 y74 y75 y76 y77 y78 y79 y80 y81 y82 y83 y84 y85 y86 y87 y88 y89 y90 y91 y92 y93 y94 y95 y96 u14 hg14 => ?_)
    ·skip
     have HG14 := hid hg14
     have r0 := cell_kp hg14 HBW.out r0
     clear r1 r2 hg14
     go_upto_region 17 with (go_at_call 6; go_must (refine (HSC.out _ HG14.out).mono ?_); rintro e w7 ⟨⟨A8, c8, rfl⟩, hk7⟩)
     have hnb := blk_new w7 (.cells #[.int .i64 (p.node : Int), .slice A8 p.sites.length c8, .bool p.opn] 33)
     have hkw := (HG14.out.trans hk7).trans ((Kp.refl w7).alloc (.cells #[.int .i64 (p.node : Int), .slice A8 p.sites.length c8, .bool p.opn] 33))
     have hnl := blk_lt hnb
     generalize w7.alloc _ = W8 at hnb hkw hnl ⊢
     generalize w7.heap.size = nb at hnb hnl ⊢
     have y1 := blk_cell (o := 1) hnb rfl
     have y2 := blk_cell (o := 2) hnb rfl
     have r1 := cell_kp (HK.out.trans hkw) HBP.out HR1.out
     have r2 := cell_kp (HK.out.trans hkw) HBP.out HR2.out
     have HKW := hid hkw
     have hbw := Nat.lt_of_lt_of_le HBW.out hkw.le
     clear hk7 hkw hnb
     refine e17 hbw hnl r1 r2 y1 y2 i1 (fun u17 hg17 => ?_)
     have HKW := hid (HKW.out.trans hg17)
     have r1 := cell_kp hg17 hbw r1
     clear y1 y2 r2 r0 hg17 hnl hbw
     go_upto_region 19 with fail
     go_wp2_with fail
     go_loopw [12, 138] (fun mv jv ws => ∃ j : Nat, j ≤ p.sites.length ∧ jv = .int .i64 (j : Int) ∧ mv = .int .i64 (((sitesOf (P.take i)).length + j : Nat) : Int) ∧ SeenR ws g g L.length (sitesOf (P.take i) ++ p.sites.take j) ∧ Kp w6 ws) (fun _ jv _ => p.sites.length - (intOf jv).toNat)
     case atStart => exact ⟨0, Nat.zero_le _, rfl, rfl, by have h := HS.out.kp HKW.out; simpa using h, HK.out.trans HKW.out⟩
     case round =>
      obtain ⟨j, hj, rfl, rfl, hs2, hk2⟩ := hrel
      have HS2 := hid hs2; have HK2 := hid hk2
      clear r1
      by_cases hlj : j < p.sites.length
      ·have j1 : (j : Int) < (p.sites.length : Int) := by omega
       have HJ := hid hlj
       obtain ⟨k, hkk⟩ : ∃ k, p.sites[j]? = some k := ⟨_, List.getElem?_eq_getElem hlj⟩
       have hkm : k ∈ p.sites := List.mem_of_getElem? hkk
       obtain ⟨q1, m, hm, hm15⟩ := HQ.out.2.2.1 k hkm
       have hkl : k < L.length := (List.getElem?_eq_some_iff.1 hm).1
       obtain ⟨sb, so, rfl, hsb, z1⟩ := nat_at (HRR.out.kp hk2) hkk
       obtain ⟨bt, off, rfl, hbt, lk, t0, _⟩ := at_node HRD6.out hm
       have t0 := cell_kp hk2 hbt t0
       rw [hm15] at t0
       have r0 := cell_kp hk2 HBP.out HR0.out
       obtain ⟨v0, f0⟩ := hs2.at_ hkl (site_new HPF.out.nodup HP.out hkk)
       have HST := hid (hs2.set hkl)
       have HKK := hid hkk
       have j2 : ¬ (k : Int) < 0 := by omega
       have j3 : ¬ (p.node : Int) ≤ (k : Int) := by omega
       have j4 : (k : Int) < (L.length : Int) := by omega
       have hb1 := sites_take P (i + 1)
       rw [sites_next HP.out, List.length_append, HCN.out] at hb1
       have hb2 := c15_le L
       have hb3 := HL.out
       have k1 : IntKind.i64.wrap ((j : Int) + 1) = ((j + 1 : Nat) : Int) := by rw [IntKind.wrap_i64]; omega
       obtain ⟨sn, hsn⟩ : ∃ sn, (sitesOf (P.take i)).length + j = sn := ⟨_, rfl⟩
       have k2 : IntKind.i64.wrap ((sn : Int) + 1) = ((sn + 1 : Nat) : Int) := by rw [IntKind.wrap_i64]; omega
       have HSN := hid hsn
       have hgl := Nat.le_of_eq HG.out
       rw [hsn]
       clear hj hlj hs2 hk2 hkm hm hm15 hkl hb1 hb2 hb3 hsn hkk q1
       go_wp2
       refine ⟨⟨j + 1, HJ.out, rfl, by rw [← Nat.add_assoc, HSN.out]; rfl, by rw [List.take_add_one, HKK.out, ← List.append_assoc]; exact HST.out, HK2.out.setCell (p := ⟨g, k, none⟩) hgl _⟩, meas_dn HJ.out⟩
      ·have j1 : ¬ (j : Int) < (p.sites.length : Int) := by omega
       obtain rfl : j = p.sites.length := by omega
       have k1 := HW1.out
       clear hj hlj hs2 hk2
       go_wp2
       refine ⟨⟨i + 1, HI.out, rfl, by rw [sites_next HP.out, List.length_append], by have h := HS2.out; rw [List.take_length, ← sites_next HP.out] at h; exact h, HK2.out⟩, meas_dn HI.out⟩
   ·have i1 : ¬ (i : Int) < (P.length : Int) := by omega
    have HT := hid (show P.take i = P by rw [List.take_of_length_le]; omega)
    rw [HT.out, HPF.out.cnt]
    clear hi hl hs hk
    go_wp2_with fail
    go_loopw [12, 18] (fun mv iv ws => ∃ j : Nat, j ≤ L.length ∧ iv = .int .i64 (j : Int) ∧ mv = .int .i64 (((c15 L - c15 (L.take j) : Nat)) : Int) ∧ Kp w6 ws) (fun _ iv _ => L.length - (intOf iv).toNat)
    case atStart => exact ⟨0, Nat.zero_le _, rfl, by simp [c15], HK.out⟩
    case round =>
     obtain ⟨j, hj, rfl, rfl, hk2⟩ := hrel
     have HK2 := hid hk2
     by_cases hlj : j < L.length
     ·have j1 : (j : Int) < (L.length : Int) := by omega
      have HJ := hid hlj
      obtain ⟨m, hm⟩ : ∃ m, L[j]? = some m := ⟨_, List.getElem?_eq_getElem hlj⟩
      obtain ⟨bt, off, rfl, hbt, lk, t0, _⟩ := at_node HRD6.out hm
      have t0 := cell_kp hk2 hbt t0
      have hnx := c15_next hm
      have hb1 := c15_take L (j + 1)
      have hb2 := c15_le L
      have hb3 := HL.out
      have k1 : IntKind.i64.wrap ((j : Int) + 1) = ((j + 1 : Nat) : Int) := by rw [IntKind.wrap_i64]; omega
      by_cases h15 : m.kind = 15
      ·rw [if_pos h15] at hnx
       rw [h15] at t0
       obtain ⟨sn, hsn⟩ : ∃ sn, c15 L - c15 (L.take j) = sn := ⟨_, rfl⟩
       have k2 : IntKind.i64.wrap ((sn : Int) - 1) = ((sn - 1 : Nat) : Int) := by rw [IntKind.wrap_i64]; omega
       have HSN := hid (show sn - 1 = c15 L - c15 (L.take (j + 1)) by omega)
       rw [hsn]
       clear hj hlj hm h15 hnx hb1 hb2 hb3 hsn hk2
       go_wp2
       exact ⟨⟨j + 1, HJ.out, rfl, by rw [HSN.out], HK2.out⟩, meas_dn HJ.out⟩
      ·rw [if_neg h15, Nat.add_zero] at hnx
       have a15 : (m.kind == 15) = false := beq_eq_false_iff_ne.2 h15
       have HNX := hid hnx
       clear hj hlj hm h15 hnx hb1 hb2 hb3 hk2
       go_wp2
       exact ⟨⟨j + 1, HJ.out, rfl, congrArg (fun n : Nat => Value.int .i64 (n : Int)) (by have := HNX.out; omega), HK2.out⟩, meas_dn HJ.out⟩
     ·have j1 : ¬ (j : Int) < (L.length : Int) := by omega
      have h0 : c15 L - c15 (L.take j) = 0 := by rw [List.take_of_length_le (by omega)]; omega
      rw [h0]
      clear hj hlj hk2 h0
      go_wp2
      go_ret
      exact ⟨by simp, HK6.out.trans HK2.out⟩
/-! ### The row's step (the guide's frame, written by program) -/
set_option maxRecDepth 100000 in
theorem lifted (os : Os) (started : os.Started) (H : Type) (enc : TypeId × Value → H) :
  ReturnsInHanded {} Try.checked os 3 .any (Rows.defersEachSpec.pre6 enc Try.prog Try.f3 Rows.defersEachRow.domain false) (Rows.defersEachSpec.post enc Try.prog Try.f3 false true false false) := by
 refine returnsInHanded_of_change_sized (C := Try.checked) own started (by kernel_rfl) Try.func3
  (ChangeSpec.witness6 (enc := enc) (C := Try.checked) false ⟨#[], #[.string ⟨#[]⟩], []⟩ 8 (by kernel_rfl) (by kernel_rfl) (by kernel_rfl) (by kernel_rfl)) ?_
 intro W base args ds gs before hval0 hW _ hsz0 _
 have hsz : (DataW.weightsEach Try.prog (Try.f3.params.toList ++ Rows.defersEachSpec.plain.varTypes Try.prog) (ds ++ gs)).all (· ≤ reachBytes) = true := hsz0
 clear hsz0
 have hval : ∀ (j : Nat) t v, Try.f3.params[j]? = some t → args[j]? = some v → Value.okWide Try.prog W .any base t v := hval0
 have hW' := hW
 obtain ⟨p, q, hA0, hV, rfl, hfz, hnd⟩ := hW
 have hA : DataW.TrodAll enc Try.prog W 0 (fun _ => true) true Try.f3.params.toList args.toList ds p := hA0
 rw [Try.params3] at hA hval hsz
 obtain ⟨v0, vs0, d0, ds0, p0, q0, hargs, rfl, rfl, h0, r0⟩ := trodAll_cons hA
 obtain ⟨rfl, rfl, rfl⟩ := trodAll_nil r0
 obtain rfl : args = #[v0] := by cases args; simp_all
 obtain ⟨rfl, rfl⟩ := trodVars_none hV
 have k0 := h0
 have lt0 : ∀ x ∈ p0, x.block < W.heap.size := by obtain ⟨m, hm⟩ := k0; exact DataW.trod_lt m _ _ _ hm
 have hz0 : ∀ n ∈ DataW.weights Try.prog 9 d0, n ≤ reachBytes := fun n hn => by
  have := List.all_eq_true.1 hsz _ (DataW.weights_mem_each (j := 0) rfl rfl n hn)
  simpa using this
 obtain ⟨a0, rfl, rfl, rfl, ws0⟩ := open_string Try.underlying9 (hval 0 9 v0 rfl rfl) h0
 have w0 : a0.size ≤ 140737488351232 := by
  have h := hz0 a0.data.toList.length (by simp [DataW.weights])
  rw [Array.length_toList] at h; exact h
 clear hA0 hval0
 simp only [List.append_nil] at hW'
 refine (walk a0 W w0).mono fun e W' ⟨he, bel⟩ => ?_
 subst he
 exact ⟨_, rfl, _, _, _, [], _, [], hW', trodAll_mk1 (shut_bool Try.underlying4 _), (trodAll_cons_mk (Below.trod laidOut (by kernel_rfl) (of_decide_eq_true (by kernel_rfl)) k0 bel lt0) trodAll_mk0), rfl, Below.frame bel _, fun h => by cases h⟩

theorem over : Rows.defersEachRow.holds Try.pinned (OpenSpec.ofChange Rows.defersEachSpec) :=
 OpenClaim.holds_of_wide 3 Try.f3 rfl rfl rfl rfl rfl rfl rfl ⟨rfl, rfl, rfl, rfl, rfl⟩ rfl rfl rfl rfl rfl (by kernel_rfl) Try.func3 (by kernel_rfl)
  (of_decide_eq_true (by kernel_rfl)) (by unfold Func.isWrapper; rw [if_neg (of_decide_eq_false (by kernel_rfl))]; exact ⟨rfl, rfl⟩)
  (fun os started H enc _ => lifted os started H enc)

theorem proved : Rows.DefersEachSaid := over
#print axioms proved

end Go.Proofs.Ytcjgagmcnmmfoaa.defersEach
