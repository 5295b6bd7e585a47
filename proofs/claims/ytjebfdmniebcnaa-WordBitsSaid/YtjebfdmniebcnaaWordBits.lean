/-
  The law WordBits answers true for every two numbers. No condition.
-/
import Derived.Test.YtjebfdmniebcnaaKword
namespace Go.Proofs.Ytjebfdmniebcnaa.wordBits
open Go.ChangeShapes Go.WideShapes Go.ChangeAt Go.RowKit
set_option linter.unusedVariables false

theorem own : ownKnob Try.prog.godebug = none := by kernel_rfl


theorem wrap_toInt (x : BitVec 64) : IntKind.i64.wrap x.toNat = x.toInt := by
  rw [IntKind.wrap_i64, BitVec.toInt_eq_toNat_cond]
  have := x.isLt
  split <;> omega
theorem ofInt_wrap (a : Int) : BitVec.ofInt 64 (wrap64 a) = BitVec.ofInt 64 a := by
  apply BitVec.eq_of_toInt_eq
  rw [BitVec.toInt_ofInt, BitVec.toInt_ofInt]
  unfold wrap64
  rw [Int.bmod_def, Int.bmod_def]
  have : ((2 ^ 64 : Nat) : Int) = 18446744073709551616 := rfl
  rw [this]
  split <;> split <;> omega
theorem toInt_ofInt (a : Int) : (BitVec.ofInt 64 a).toInt = wrap64 a := by
  rw [BitVec.toInt_ofInt]
  unfold wrap64
  rw [Int.bmod_def]
  have : ((2 ^ 64 : Nat) : Int) = 18446744073709551616 := rfl
  rw [this]
  split <;> omega
theorem and_v (a b : Int) : doV 8 a b = (BitVec.ofInt 64 a &&& BitVec.ofInt 64 b).toInt := by unfold doV; repeat (first | rw [if_neg (by omega)] | rw [if_pos (by omega)]); exact wrap_toInt _
theorem or_v (a b : Int) : doV 9 a b = (BitVec.ofInt 64 a ||| BitVec.ofInt 64 b).toInt := by unfold doV; repeat (first | rw [if_neg (by omega)] | rw [if_pos (by omega)]); exact wrap_toInt _
theorem xor_v (a b : Int) : doV 10 a b = (BitVec.ofInt 64 a ^^^ BitVec.ofInt 64 b).toInt := by unfold doV; repeat (first | rw [if_neg (by omega)] | rw [if_pos (by omega)]); exact wrap_toInt _
theorem add_v (a b : Int) : doV 1 a b = (BitVec.ofInt 64 a + BitVec.ofInt 64 b).toInt := by
  rw [← BitVec.ofInt_add, toInt_ofInt]; simp [doV]
theorem sub_v (a b : Int) : doV 2 a b = (BitVec.ofInt 64 a - BitVec.ofInt 64 b).toInt := by
  have : BitVec.ofInt 64 a - BitVec.ofInt 64 b = BitVec.ofInt 64 (a - b) := by
    rw [Int.sub_eq_add_neg, BitVec.ofInt_add, BitVec.ofInt_neg, BitVec.sub_eq_add_neg]
  rw [this, toInt_ofInt]; simp [doV]
theorem ofInt_toInt (x : BitVec 64) : BitVec.ofInt 64 x.toInt = x := BitVec.ofInt_toInt
theorem bv1 (x y : BitVec 64) : (x ||| y) = (x &&& y) + (x ^^^ y) := by
  rw [BitVec.add_eq_or_of_and_eq_zero]
  · ext i hi; simp; try (cases x[i] <;> cases y[i] <;> simp)
  · ext i hi; simp; try (cases x[i] <;> cases y[i] <;> simp)
theorem bv2 (x y : BitVec 64) : (x ||| y) = y + (x &&& ~~~y) := by
  rw [BitVec.add_eq_or_of_and_eq_zero]
  · ext i hi; simp; try (cases x[i] <;> cases y[i] <;> simp)
  · ext i hi; simp; try (cases x[i] <;> cases y[i] <;> simp)
theorem bv3 (x y : BitVec 64) : x = (x &&& y) + (x &&& ~~~y) := by
  rw [BitVec.add_eq_or_of_and_eq_zero]
  · ext i hi; simp; try (cases x[i] <;> cases y[i] <;> simp)
  · ext i hi; simp; try (cases x[i] <;> cases y[i] <;> simp)
theorem bv4 (x y : BitVec 64) : (x &&& y) + (x ||| y) = x + y := by
  rw [bv2, ← BitVec.add_assoc, BitVec.add_comm (x &&& y) y, BitVec.add_assoc, ← bv3, BitVec.add_comm]
set_option maxHeartbeats 400000 in
theorem walk (a0 : Int) (a1 : Int) (w0 : (Lit.int .i64 a0).wf = true) (w1 : (Lit.int .i64 a1).wf = true) (w : World) :
    Calls Try.prog 8 #[.int .i64 a0, .int .i64 a1] w fun e w' => e = .returned (.bool true) ∧ Kp w w' := by
  have f1 : (doV 1 (doV 8 a0 a1) (doV 9 a0 a1) == doV 1 a0 a1) = true := by rw [add_v, and_v, or_v, add_v, ofInt_toInt, ofInt_toInt, bv4]; simp
  have f2 : (doV 2 (doV 9 a0 a1) (doV 8 a0 a1) == doV 10 a0 a1) = true := by rw [sub_v, and_v, or_v, xor_v, ofInt_toInt, ofInt_toInt, bv1, BitVec.add_comm, BitVec.add_sub_cancel]; simp
  have f3 : (doV 10 (doV 10 a0 a1) a1 == a0) = true := by rw [xor_v, xor_v, ofInt_toInt, BitVec.xor_assoc, BitVec.xor_self, BitVec.xor_zero, toInt_ofInt, w64_id a0 w0]; simp
  have f4 : (doV 8 a0 a0 == a0) = true := by rw [and_v, BitVec.and_self, toInt_ofInt, w64_id a0 w0]; simp
  clear w0 w1
  go_enter Try.func8, Try.ntmps8
  go_wp2_with (first | (go_at_call 18; refine (kdo_any _ _ _ _).mono ?_; rintro e w' ⟨rfl, rfl⟩) | (go_at_call 19; refine (awake_any _).mono ?_; rintro e w' ⟨rfl, rfl⟩))
  go_ret
  exact ⟨rfl, Kp.refl _⟩

/-! ### The row's step (the guide's frame, written by program) -/
set_option maxRecDepth 100000 in
theorem lifted (os : Os) (started : os.Started) (H : Type) (enc : TypeId × Value → H) :
    ReturnsInHanded {} Try.checked os 8 .any (Rows.wordBitsSpec.pre6 enc Try.prog Try.f8 Rows.wordBitsRow.domain false) (Rows.wordBitsSpec.post enc Try.prog Try.f8 false true false false) := by
  refine returnsInHanded_of_change (C := Try.checked) own started (by kernel_rfl) Try.func8
    (ChangeSpec.witness6 (enc := enc) (C := Try.checked) false ⟨#[], #[.int .i64 0, .int .i64 0], []⟩ 8 (by kernel_rfl) (by kernel_rfl) (by kernel_rfl) (by kernel_rfl)) ?_
  intro W base args ds gs before hval0 hW hcnd _
  have hval : ∀ (j : Nat) t v, Try.f8.params[j]? = some t → args[j]? = some v → Value.okWide Try.prog W .any base t v := hval0
  have hW' := hW
  obtain ⟨p, q, hA0, hV, rfl, hfz, hnd⟩ := hW
  have hA : DataW.TrodAll enc Try.prog W 0 (fun _ => true) true Try.f8.params.toList args.toList ds p := hA0
  rw [Try.params8] at hA hval
  obtain ⟨v0, vs0, d0, ds0, p0, q0, hargs, rfl, rfl, h0, r0⟩ := trodAll_cons hA
  obtain ⟨v1, vs1, d1, ds1, p1, q1, rfl, rfl, rfl, h1, r1⟩ := trodAll_cons r0
  obtain ⟨rfl, rfl, rfl⟩ := trodAll_nil r1
  obtain rfl : args = #[v0, v1] := by cases args; simp_all
  obtain ⟨rfl, rfl⟩ := trodVars_none hV
  obtain ⟨a0, rfl, rfl, rfl, w0⟩ := open_int Try.underlying3 (hval 0 3 v0 rfl rfl) h0
  obtain ⟨a1, rfl, rfl, rfl, w1⟩ := open_int Try.underlying3 (hval 1 3 v1 rfl rfl) h1
  clear hA0 hval0
  simp only [List.append_nil] at hW'
  refine (walk a0 a1 w0 w1 W).mono fun e W' ⟨he, bel⟩ => ?_
  subst he
  exact ⟨_, rfl, _, _, _, [], _, [], hW', trodAll_mk1 (shut_bool Try.underlying4 _), (trodAll_cons_mk (shut_int Try.underlying3 w0) (trodAll_cons_mk (shut_int Try.underlying3 w1) trodAll_mk0)), rfl, Below.frame bel _, fun h => by cases h⟩

theorem over : Rows.wordBitsRow.holds Try.pinned (OpenSpec.ofChange Rows.wordBitsSpec) :=
  OpenClaim.holds_of_wide 8 Try.f8 rfl rfl rfl rfl rfl rfl rfl ⟨rfl, rfl, rfl, rfl, rfl⟩ rfl rfl rfl rfl rfl (by kernel_rfl) Try.func8 (by kernel_rfl)
    (of_decide_eq_true (by kernel_rfl)) (by unfold Func.isWrapper; rw [if_neg (of_decide_eq_false (by kernel_rfl))]; exact ⟨rfl, rfl⟩)
    (fun os started H enc _ => lifted os started H enc)

/-- THE STATEMENT. -/
theorem proved : Rows.WordBitsSaid := over
#print axioms proved

end Go.Proofs.Ytjebfdmniebcnaa.wordBits
