/-
  Package guard: Need, After. No condition. (Printed by a program, wip/gen_grd.py.)
-/
import Derived.Test.YtgonekmmbeedeaaGrd
namespace Go.Proofs.Ytgonekmmbeedeaa.Sq
open Go.RowKit
set_option linter.unusedVariables false
set_option linter.unusedSimpArgs false

/-! ### Need, After -/
def needV (i : InsM) : Value := if (needM i).d = 0 then .tuple #[insV ⟨0, 0, 0, 0, 0, 0⟩, .bool false] else .tuple #[insV (needM i), .bool true]
set_option maxRecDepth 20000 in
set_option maxHeartbeats 4000000 in
theorem Need_any (w : World) (i : InsM) : Calls Try.prog 60 #[insV i] w fun e w' => e = .returned (needV i) ∧ Kp w w' := by
  have hn := fun w' => need_any w' i
  by_cases h0 : (needM i).d = 0
  · have HV := hid (show needV i = .tuple #[insV ⟨0, 0, 0, 0, 0, 0⟩, .bool false] by unfold needV; rw [if_pos h0])
    generalize needV i = V at HV ⊢
    generalize needM i = n at hn h0
    have t0 : (n.d == 0) = true := by simp [h0]
    clear h0
    unfold insV at hn HV ⊢
    go_enter Try.func60, Try.ntmps60
    obtain ⟨n1, hn1⟩ : ∃ n1, w.heap.size + 1 = n1 := ⟨_, rfl⟩
    go_upto_region 2 with (go_at_call 74; refine (hn _).mono ?_; rintro e w2 ⟨rfl, hk2⟩; have HK2 := hid (((Kp.refl w).alloc _ |>.alloc _).trans hk2); have HBX := hid (by have h := blk_new (w.alloc (.cells #[.int .i64 i.op, .int .i64 i.a, .int .i64 i.b, .int .i64 i.c, .int .i64 i.d, .int .i64 i.e] 64)) (.cells #[.int .i64 0, .int .i64 0, .int .i64 0, .int .i64 0, .int .i64 0, .int .i64 0] 64); rw [World.size_alloc] at h; exact blk_old ((hk2.block _ (blk_lt h)).trans h) (.cells #[.int .i64 n.op, .int .i64 n.a, .int .i64 n.b, .int .i64 n.c, .int .i64 n.d, .int .i64 n.e] 64)); have HBN := hid (blk_new w2 (.cells #[.int .i64 n.op, .int .i64 n.a, .int .i64 n.b, .int .i64 n.c, .int .i64 n.d, .int .i64 n.e] 64)); clear hk2)
    rw [hn1] at HBX
    have HK3 := hid (HK2.out.alloc (.cells #[.int .i64 n.op, .int .i64 n.a, .int .i64 n.b, .int .i64 n.c, .int .i64 n.d, .int .i64 n.e] 64))
    generalize w2.alloc (.cells #[.int .i64 n.op, .int .i64 n.a, .int .i64 n.b, .int .i64 n.c, .int .i64 n.d, .int .i64 n.e] 64) = W3 at HBX HBN HK3 ⊢
    generalize w2.heap.size = n2 at HBN ⊢
    obtain ⟨⟨z0, z1, z2, z3, z4, z5⟩, ⟨f0, f1, f2, f3, f4, f5⟩⟩ := boxed6 _ _ _ _ _ _ _ _ HBX.out
    obtain ⟨⟨y0, y1, y2, y3, y4, y5⟩, _⟩ := boxed6 _ _ _ _ _ _ _ _ HBN.out
    have zl := blk_lt HBX.out
    have yl := blk_lt HBN.out
    go_wp2
    have HPB := hid (put6_blk HBX.out ⟨0, 0, 0, 0, 0, 0⟩)
    unfold put6 at HPB
    obtain ⟨⟨r0, r1, r2, r3, r4, r5⟩, _⟩ := boxed6 _ _ _ _ _ _ _ _ HPB.out
    have HKE := hid (Below.grown HK3.out (put6_grown W3 n1 0 ⟨0, 0, 0, 0, 0, 0⟩) HK3.out.le (fun q hq => by injection hq with hq; subst hq; omega))
    unfold put6 at HKE
    simp only [Nat.zero_add] at r0 r1 r2 r3 r4 r5 HKE
    refine bodyPost_ret (v := .tuple #[.agg #[.int .i64 0, .int .i64 0, .int .i64 0, .int .i64 0, .int .i64 0, .int .i64 0], .bool false]) (by simp [results, Try.results60, go_sem, r0, r1, r2, r3, r4, r5]) rfl ⟨?_, HKE.out⟩
    rw [HV.out]
  · have HV := hid (show needV i = .tuple #[insV (needM i), .bool true] by unfold needV; rw [if_neg h0])
    generalize needV i = V at HV ⊢
    generalize needM i = n at hn h0 HV
    have t0 : (n.d == 0) = false := by simp [h0]
    clear h0
    unfold insV at hn HV ⊢
    go_enter Try.func60, Try.ntmps60
    obtain ⟨n1, hn1⟩ : ∃ n1, w.heap.size + 1 = n1 := ⟨_, rfl⟩
    go_upto_region 2 with (go_at_call 74; refine (hn _).mono ?_; rintro e w2 ⟨rfl, hk2⟩; have HK2 := hid (((Kp.refl w).alloc _ |>.alloc _).trans hk2); have HBX := hid (by have h := blk_new (w.alloc (.cells #[.int .i64 i.op, .int .i64 i.a, .int .i64 i.b, .int .i64 i.c, .int .i64 i.d, .int .i64 i.e] 64)) (.cells #[.int .i64 0, .int .i64 0, .int .i64 0, .int .i64 0, .int .i64 0, .int .i64 0] 64); rw [World.size_alloc] at h; exact blk_old ((hk2.block _ (blk_lt h)).trans h) (.cells #[.int .i64 n.op, .int .i64 n.a, .int .i64 n.b, .int .i64 n.c, .int .i64 n.d, .int .i64 n.e] 64)); have HBN := hid (blk_new w2 (.cells #[.int .i64 n.op, .int .i64 n.a, .int .i64 n.b, .int .i64 n.c, .int .i64 n.d, .int .i64 n.e] 64)); clear hk2)
    rw [hn1] at HBX
    have HK3 := hid (HK2.out.alloc (.cells #[.int .i64 n.op, .int .i64 n.a, .int .i64 n.b, .int .i64 n.c, .int .i64 n.d, .int .i64 n.e] 64))
    generalize w2.alloc (.cells #[.int .i64 n.op, .int .i64 n.a, .int .i64 n.b, .int .i64 n.c, .int .i64 n.d, .int .i64 n.e] 64) = W3 at HBX HBN HK3 ⊢
    generalize w2.heap.size = n2 at HBN ⊢
    obtain ⟨⟨z0, z1, z2, z3, z4, z5⟩, ⟨f0, f1, f2, f3, f4, f5⟩⟩ := boxed6 _ _ _ _ _ _ _ _ HBX.out
    obtain ⟨⟨y0, y1, y2, y3, y4, y5⟩, _⟩ := boxed6 _ _ _ _ _ _ _ _ HBN.out
    have zl := blk_lt HBX.out
    have yl := blk_lt HBN.out
    go_wp2
    have HPB := hid (put6_blk HBX.out n)
    unfold put6 at HPB
    obtain ⟨⟨r0, r1, r2, r3, r4, r5⟩, _⟩ := boxed6 _ _ _ _ _ _ _ _ HPB.out
    have HKE := hid (Below.grown HK3.out (put6_grown W3 n1 0 n) HK3.out.le (fun q hq => by injection hq with hq; subst hq; omega))
    unfold put6 at HKE
    simp only [Nat.zero_add] at r0 r1 r2 r3 r4 r5 HKE
    refine bodyPost_ret (v := .tuple #[.agg #[.int .i64 n.op, .int .i64 n.a, .int .i64 n.b, .int .i64 n.c, .int .i64 n.d, .int .i64 n.e], .bool true]) (by simp [results, Try.results60, go_sem, r0, r1, r2, r3, r4, r5]) rfl ⟨?_, HKE.out⟩
    rw [HV.out]
def afterM (op : Int) : Int := if op = 24 ∨ op = 28 ∨ op = 31 ∨ op = 33 then 25 else if op = 36 ∨ op = 39 then 40 else 0
set_option maxRecDepth 20000 in
set_option maxHeartbeats 4000000 in
theorem After_any (w : World) (op : Int) : Calls Try.prog 59 #[.int .i64 op] w fun e w' => e = .returned (.int .i64 (afterM op)) ∧ Kp w w' := by
  by_cases h24 : op = 24
  · have HS := hid (show afterM op = 25 by unfold afterM; rw [if_pos (by omega)])
    have t24 : (op == 24) = true := by simp [h24]
    have t28 : (op == 28) = false := by simp [h24]
    have t31 : (op == 31) = false := by simp [h24]
    have t33 : (op == 33) = false := by simp [h24]
    have t36 : (op == 36) = false := by simp [h24]
    have t39 : (op == 39) = false := by simp [h24]
    clear h24
    go_enter Try.func59, Try.ntmps59
    go_wp2
    go_ret
    exact ⟨ret_int HS.out.symm, Kp.refl _⟩
  by_cases h28 : op = 28
  · have HS := hid (show afterM op = 25 by unfold afterM; rw [if_pos (by omega)])
    have t24 : (op == 24) = false := by simp [h28]
    have t28 : (op == 28) = true := by simp [h28]
    have t31 : (op == 31) = false := by simp [h28]
    have t33 : (op == 33) = false := by simp [h28]
    have t36 : (op == 36) = false := by simp [h28]
    have t39 : (op == 39) = false := by simp [h28]
    clear h24 h28
    go_enter Try.func59, Try.ntmps59
    go_wp2
    go_ret
    exact ⟨ret_int HS.out.symm, Kp.refl _⟩
  by_cases h31 : op = 31
  · have HS := hid (show afterM op = 25 by unfold afterM; rw [if_pos (by omega)])
    have t24 : (op == 24) = false := by simp [h31]
    have t28 : (op == 28) = false := by simp [h31]
    have t31 : (op == 31) = true := by simp [h31]
    have t33 : (op == 33) = false := by simp [h31]
    have t36 : (op == 36) = false := by simp [h31]
    have t39 : (op == 39) = false := by simp [h31]
    clear h24 h28 h31
    go_enter Try.func59, Try.ntmps59
    go_wp2
    go_ret
    exact ⟨ret_int HS.out.symm, Kp.refl _⟩
  by_cases h33 : op = 33
  · have HS := hid (show afterM op = 25 by unfold afterM; rw [if_pos (by omega)])
    have t24 : (op == 24) = false := by simp [h33]
    have t28 : (op == 28) = false := by simp [h33]
    have t31 : (op == 31) = false := by simp [h33]
    have t33 : (op == 33) = true := by simp [h33]
    have t36 : (op == 36) = false := by simp [h33]
    have t39 : (op == 39) = false := by simp [h33]
    clear h24 h28 h31 h33
    go_enter Try.func59, Try.ntmps59
    go_wp2
    go_ret
    exact ⟨ret_int HS.out.symm, Kp.refl _⟩
  by_cases h36 : op = 36
  · have HS := hid (show afterM op = 40 by unfold afterM; rw [if_neg (by omega), if_pos (by omega)])
    have t24 : (op == 24) = false := by simp [h36]
    have t28 : (op == 28) = false := by simp [h36]
    have t31 : (op == 31) = false := by simp [h36]
    have t33 : (op == 33) = false := by simp [h36]
    have t36 : (op == 36) = true := by simp [h36]
    have t39 : (op == 39) = false := by simp [h36]
    clear h24 h28 h31 h33 h36
    go_enter Try.func59, Try.ntmps59
    go_wp2
    go_ret
    exact ⟨ret_int HS.out.symm, Kp.refl _⟩
  by_cases h39 : op = 39
  · have HS := hid (show afterM op = 40 by unfold afterM; rw [if_neg (by omega), if_pos (by omega)])
    have t24 : (op == 24) = false := by simp [h39]
    have t28 : (op == 28) = false := by simp [h39]
    have t31 : (op == 31) = false := by simp [h39]
    have t33 : (op == 33) = false := by simp [h39]
    have t36 : (op == 36) = false := by simp [h39]
    have t39 : (op == 39) = true := by simp [h39]
    clear h24 h28 h31 h33 h36 h39
    go_enter Try.func59, Try.ntmps59
    go_wp2
    go_ret
    exact ⟨ret_int HS.out.symm, Kp.refl _⟩
  have HS := hid (show afterM op = 0 by unfold afterM; rw [if_neg (by omega), if_neg (by omega)])
  have t24 : (op == 24) = false := by simp [h24]
  have t28 : (op == 28) = false := by simp [h28]
  have t31 : (op == 31) = false := by simp [h31]
  have t33 : (op == 33) = false := by simp [h33]
  have t36 : (op == 36) = false := by simp [h36]
  have t39 : (op == 39) = false := by simp [h39]
  clear h24 h28 h31 h33 h36 h39
  go_enter Try.func59, Try.ntmps59
  go_wp2
  go_ret
  exact ⟨ret_int HS.out.symm, Kp.refl _⟩
end Go.Proofs.Ytgonekmmbeedeaa.Sq
