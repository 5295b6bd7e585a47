/-
  The law ScanRemarks answers true for all texts. No condition.
-/
import Derived.SizedLaws
import Derived.Deep.CondSized
import Derived.Test.YtlfgofjmcegeiaaRows
import Derived.Test.YtlfgofjmcegeiaaScanA
namespace Go.Proofs.Ytlfgofjmcegeiaa.scanRemarks
open Go.ChangeShapes Go.WideShapes Go.ChangeAt Go.RowKit
open Go.ChangeMaps (open_string shut_string)
set_option linter.unusedVariables false
set_option linter.unusedSimpArgs false

theorem own : ownKnob Try.prog.godebug = none := by kernel_rfl
theorem laidOut : laidOutB Try.prog = true := by kernel_rfl


theorem kp_blk {w w' : World} {b : Nat} {x : Obj} (hk : Kp w w') (h : w.heap[b]? = some x) : w'.heap[b]? = some x := (hk.block b (blk_lt h)).trans h
theorem rem_round {k k1 n : Nat} {P : Nat → Prop} (hk : k + 1 = k1) (hl : k < n) (hp : P (k + 1)) : (∃ k' : Nat, k' ≤ n ∧ Value.int .i64 (k1 : Int) = .int .i64 (k' : Int) ∧ P k') ∧ n - (intOf (.int .i64 (k1 : Int))).toNat < n - (intOf (.int .i64 (k : Int))).toNat := by
  subst hk
  exact ⟨⟨k + 1, hl, rfl, hp⟩, by simp only [intOf, Int.toNat_natCast]; omega⟩
set_option maxRecDepth 20000 in
set_option maxHeartbeats 8000000 in
theorem walk (a0 : ByteArray) (a1 : ByteArray) (w : World) (w0 : a0.size ≤ 140737488351232) (w1 : a1.size ≤ 140737488351232) :
    Calls Try.prog 7 #[.string a0, .string a1] w fun e w' => e = .returned (.bool true) ∧ Kp w w' := by
  have W0 := hid w0; have W1 := hid w1
  have j0 : IntKind.i64.wrap ((a0.size : Int) + (a1.size : Int)) = (a0.size : Int) + (a1.size : Int) := by rw [IntKind.wrap_i64]; omega
  clear w0 w1
  by_cases hbig : 7996 < a0.size + a1.size
  · have j1 : (7996 : Int) < (a0.size : Int) + (a1.size : Int) := by omega
    clear hbig
    go_enter Try.func7, Try.ntmps7
    go_wp2_with (go_at_call 18; go_must (refine (three_any _).mono ?_); rintro e w9 ⟨rfl, hk9⟩)
    go_ret
    exact ⟨rfl, hk9⟩
  have HBIG := hid hbig
  have j1 : ¬ (7996 : Int) < (a0.size : Int) + (a1.size : Int) := by omega
  go_enter Try.func7, Try.ntmps7
  go_wp2_with fail
  clear j0 j1
  go_loop [5] (fun i => ∃ k : Nat, k ≤ a1.size ∧ i = .int .i64 (k : Int) ∧ ∀ b ∈ a1.data.toList.take k, b ≠ 10) (fun i => a1.size - (intOf i).toNat)
  case atStart => exact ⟨0, Nat.zero_le _, rfl, fun b hb => by simp at hb⟩
  case round =>
    obtain ⟨k, hk, rfl, hall⟩ := hrel
    have HALL := hid hall
    by_cases hlt : k < a1.size
    · have i1 : (k : Int) < (a1.size : Int) := by omega
      obtain ⟨b, hb⟩ : ∃ b, a1[k] = b := ⟨_, rfl⟩
      have b10 := byte_beq b 10 (by decide)
      by_cases h10 : b = 10
      · have t0 : ((b.toNat : Int) == 10) = true := b10.trans (by rw [h10]; rfl)
        clear hk hall h10 b10
        go_wp2_with (go_at_call 18; go_must (refine (three_any _).mono ?_); rintro e w9 ⟨rfl, hk9⟩)
        go_ret
        exact ⟨rfl, hk9⟩
      · have t0 : ((b.toNat : Int) == 10) = false := b10.trans (beq_eq_false_iff_ne.2 h10)
        have HN := hid (show ∀ x ∈ a1.data.toList.take (k + 1), x ≠ 10 by
          have e : a1.data.toList.take (k + 1) = a1.data.toList.take k ++ [b] := by
            rw [List.take_add_one, rest_at a1 k hlt, hb]; rfl
          rw [e]
          intro x hx
          rcases List.mem_append.1 hx with hx | hx
          · exact hall x hx
          · rw [List.mem_singleton] at hx; rw [hx]; exact h10)
        obtain ⟨k1, hk1⟩ : ∃ k1, k + 1 = k1 := ⟨_, rfl⟩
        have HK1 := hid hk1
        have k0 : IntKind.i64.wrap ((k : Int) + 1) = (k1 : Int) := by rw [IntKind.wrap_i64]; have := HBIG.out; omega
        clear hk hall h10 b10 hk1
        go_wp2
        exact rem_round (P := fun k => ∀ b ∈ a1.data.toList.take k, b ≠ 10) HK1.out hlt HN.out
    · have i1 : ¬ (k : Int) < (a1.size : Int) := by omega
      have HN := hid (show ∀ x ∈ a1.data.toList, x ≠ 10 by
        have e : a1.data.toList.take k = a1.data.toList := List.take_of_length_le (by rw [Array.length_toList]; have : a1.data.size = a1.size := rfl; omega)
        rw [e] at hall; exact hall)
      clear hk hall
      go_wp2_with fail
      refine (toks_any _ a0 W0.out).mono ?_
      rintro e w2 ⟨h1, hk1⟩
      have HK1 := hid hk1
      rcases h1 with ⟨l, v, hT, rfl, ho⟩ | ⟨er, hT, e1, e2, rfl⟩
      · have HT := hid hT; have HO := hid (OwnL.rd ho)
        obtain ⟨A, cc, rfl, _⟩ := (OwnL.rd ho).form
        clear hT ho hk1
        go_wp2_with fail
        have HB1 := hid (blk_new w2 (Obj.cells #[.int .i64 0, .int .i64 0, .int .i64 0] 36))
        have HKA := hid (show Kp w2 (w2.alloc (Obj.cells #[.int .i64 0, .int .i64 0, .int .i64 0] 36)) from (Kp.refl _).alloc _)
        generalize (w2.alloc (Obj.cells #[.int .i64 0, .int .i64 0, .int .i64 0] 36)) = W2 at HB1 HKA ⊢
        obtain ⟨S', hS'⟩ : ∃ S', a0 ++ ⟨#[32, 47, 47]⟩ ++ a1 = S' := ⟨_, rfl⟩
        have hl' : S'.data.toList = a0.data.toList ++ (32 :: 47 :: 47 :: a1.data.toList) := by rw [← hS']; simp
        have hz : S'.size ≤ 8000 := by
          have := congrArg List.length hl'
          simp at this
          have e1 : S'.data.size = S'.size := rfl
          have e2 : a0.data.size = a0.size := rfl
          have e3 : a1.data.size = a1.size := rfl
          have := HBIG.out; omega
        obtain ⟨l', hT', hlk⟩ := remarks_law HT.out hl' hz HN.out
        rw [hS']
        clear hS' hl'
        refine (toks_any _ S' (by omega)).mono ?_
        rintro e w3 ⟨h2, hk2⟩
        rcases h2 with ⟨l2, v2, hT2, rfl, ho2⟩ | ⟨er, hT2, _⟩
        · have hd := hT2.det hT'
          injection hd with hd
          subst hd
          have HO2 := hid (OwnL.rd ho2)
          obtain ⟨A2, cc2, rfl, _⟩ := (OwnL.rd ho2).form
          have HK2 := hid hk2
          have HLK := hid (show Like l l2 false from .inl hlk)
          have HLZ := hid (show l.length ≤ 3000 by have := HT.out.placed; omega)
          have HB2 := hid (kp_blk hk2 HB1.out)
          have q1 := blk_cell (o := 0) (v := .int .i64 0) HB2.out rfl
          have hlt1 := blk_lt HB2.out
          have HB3 := hid (kp_blk ((Kp.refl w3).alloc (Obj.cells #[.int .i64 0, .int .i64 0, .int .i64 0] 36)) HB2.out)
          have HB4 := hid (blk_new w3 (Obj.cells #[.int .i64 0, .int .i64 0, .int .i64 0] 36))
          clear hT2 hT' hlk ho2 hk2 hz
          go_wp2_with first | (go_at_call 18; go_must (refine (three_any _).mono ?_); rintro e w9 ⟨rfl, hk9⟩; have HK9 := hid hk9; have r1 := blk_cell (o := 0) (kp_blk hk9 HB3.out) rfl; have r2 := blk_cell (o := 0) (kp_blk hk9 HB4.out) rfl; clear hk9) | (go_at_call 20; go_must (refine (alike_yes _ _ _ l l2 false (HO.out.kp CeToken.kp (HKA.out.trans (HK2.out.trans (((Kp.refl w3).alloc _).trans HK9.out)))) (HO2.out.kp CeToken.kp (((Kp.refl w3).alloc _).trans HK9.out)) HLK.out HLZ.out).mono ?_); rintro e w10 ⟨rfl, hk10⟩)
          go_ret
          exact ⟨rfl, HK1.out.trans (HKA.out.trans (HK2.out.trans (((Kp.refl w3).alloc _).trans (HK9.out.trans hk10))))⟩
        · have hd := hT2.det hT'
          cases hd
      · have t0 : (er.1 != 0) = true := by rw [bne_iff_ne]; omega
        clear hT e1 e2 hk1
        go_wp2_with fail
        have HB1 := hid (blk_new w2 (Obj.cells #[.int .i64 er.1, .int .i64 er.2.1, .int .i64 er.2.2] 36))
        have HKA := hid (show Kp w2 (w2.alloc (Obj.cells #[.int .i64 er.1, .int .i64 er.2.1, .int .i64 er.2.2] 36)) from (Kp.refl _).alloc _)
        generalize (w2.alloc (Obj.cells #[.int .i64 er.1, .int .i64 er.2.1, .int .i64 er.2.2] 36)) = W2 at HB1 HKA ⊢
        obtain ⟨S', hS'⟩ : ∃ S', a0 ++ ⟨#[32, 47, 47]⟩ ++ a1 = S' := ⟨_, rfl⟩
        have hz : S'.size ≤ 8000 := by
          have hl' : S'.data.toList = a0.data.toList ++ (32 :: 47 :: 47 :: a1.data.toList) := by rw [← hS']; simp
          have := congrArg List.length hl'
          simp at this
          have e1 : S'.data.size = S'.size := rfl
          have e2 : a0.data.size = a0.size := rfl
          have e3 : a1.data.size = a1.size := rfl
          have := HBIG.out; omega
        rw [hS']
        clear hS'
        refine (toks_any _ S' (by omega)).mono ?_
        rintro e w3 ⟨h2, hk2⟩
        have HK2 := hid hk2
        have HB2 := hid (kp_blk hk2 HB1.out)
        have q1 := blk_cell (o := 0) (v := .int .i64 er.1) HB2.out rfl
        have hlt1 := blk_lt HB2.out
        clear hk2 hz
        rcases h2 with ⟨l2, v2, hT2, rfl, ho2⟩ | ⟨er2, hT2, _, _, rfl⟩
        · obtain ⟨A2, cc2, rfl, _⟩ := (OwnL.rd ho2).form
          have HB3 := hid (kp_blk ((Kp.refl w3).alloc (Obj.cells #[.int .i64 0, .int .i64 0, .int .i64 0] 36)) HB2.out)
          have HB4 := hid (blk_new w3 (Obj.cells #[.int .i64 0, .int .i64 0, .int .i64 0] 36))
          clear hT2 ho2
          go_wp2_with first | (go_at_call 18; go_must (refine (three_any _).mono ?_); rintro e w9 ⟨rfl, hk9⟩; have HK9 := hid hk9; have r1 := blk_cell (o := 0) (kp_blk hk9 HB3.out) rfl; have r2 := blk_cell (o := 0) (kp_blk hk9 HB4.out) rfl; clear hk9)
          go_ret
          exact ⟨rfl, HK1.out.trans (HKA.out.trans (HK2.out.trans (((Kp.refl w3).alloc _).trans HK9.out)))⟩
        · have HB3 := hid (kp_blk ((Kp.refl w3).alloc (Obj.cells #[.int .i64 er2.1, .int .i64 er2.2.1, .int .i64 er2.2.2] 36)) HB2.out)
          have HB4 := hid (blk_new w3 (Obj.cells #[.int .i64 er2.1, .int .i64 er2.2.1, .int .i64 er2.2.2] 36))
          clear hT2
          go_wp2_with first | (go_at_call 18; go_must (refine (three_any _).mono ?_); rintro e w9 ⟨rfl, hk9⟩; have HK9 := hid hk9; have r1 := blk_cell (o := 0) (kp_blk hk9 HB3.out) rfl; have r2 := blk_cell (o := 0) (kp_blk hk9 HB4.out) rfl; clear hk9)
          go_ret
          exact ⟨rfl, HK1.out.trans (HKA.out.trans (HK2.out.trans (((Kp.refl w3).alloc _).trans HK9.out)))⟩
/-! ### The row's step (the guide's frame, written by program) -/
set_option maxRecDepth 100000 in
theorem lifted (os : Os) (started : os.Started) (H : Type) (enc : TypeId × Value → H) :
    ReturnsInHanded {} Try.checked os 7 .any (Rows.scanRemarksSpec.pre6 enc Try.prog Try.f7 Rows.scanRemarksRow.domain false) (Rows.scanRemarksSpec.post enc Try.prog Try.f7 false true false false) := by
  refine returnsInHanded_of_change_sized (C := Try.checked) own started (by kernel_rfl) Try.func7
    (ChangeSpec.witness6 (enc := enc) (C := Try.checked) false ⟨#[], #[.string ⟨#[]⟩, .string ⟨#[]⟩], []⟩ 8 (by kernel_rfl) (by kernel_rfl) (by kernel_rfl) (by kernel_rfl)) ?_
  intro W base args ds gs before hval0 hW _ hsz0 _
  have hsz : (DataW.weightsEach Try.prog (Try.f7.params.toList ++ Rows.scanRemarksSpec.plain.varTypes Try.prog) (ds ++ gs)).all (· ≤ reachBytes) = true := hsz0
  clear hsz0
  have hval : ∀ (j : Nat) t v, Try.f7.params[j]? = some t → args[j]? = some v → Value.okWide Try.prog W .any base t v := hval0
  have hW' := hW
  obtain ⟨p, q, hA0, hV, rfl, hfz, hnd⟩ := hW
  have hA : DataW.TrodAll enc Try.prog W 0 (fun _ => true) true Try.f7.params.toList args.toList ds p := hA0
  rw [Try.params7] at hA hval hsz
  obtain ⟨v0, vs0, d0, ds0, p0, q0, hargs, rfl, rfl, h0, r0⟩ := trodAll_cons hA
  obtain ⟨v1, vs1, d1, ds1, p1, q1, rfl, rfl, rfl, h1, r1⟩ := trodAll_cons r0
  obtain ⟨rfl, rfl, rfl⟩ := trodAll_nil r1
  obtain rfl : args = #[v0, v1] := by cases args; simp_all
  obtain ⟨rfl, rfl⟩ := trodVars_none hV
  have k0 := h0
  have lt0 : ∀ x ∈ p0, x.block < W.heap.size := by obtain ⟨m, hm⟩ := k0; exact DataW.trod_lt m _ _ _ hm
  have hz0 : ∀ n ∈ DataW.weights Try.prog 9 d0, n ≤ reachBytes := fun n hn => by
    have := List.all_eq_true.1 hsz _ (DataW.weights_mem_each (j := 0) rfl rfl n hn)
    simpa using this
  obtain ⟨a0, rfl, rfl, rfl, ws0⟩ := open_string Try.underlying9 (hval 0 9 v0 rfl rfl) h0
  have w0 : a0.size ≤ 140737488351232 := by
    have h := hz0 a0.data.toList.length (by simp [DataW.weights])
    rw [Array.length_toList] at h; exact h
  have k1 := h1
  have lt1 : ∀ x ∈ p1, x.block < W.heap.size := by obtain ⟨m, hm⟩ := k1; exact DataW.trod_lt m _ _ _ hm
  have hz1 : ∀ n ∈ DataW.weights Try.prog 9 d1, n ≤ reachBytes := fun n hn => by
    have := List.all_eq_true.1 hsz _ (DataW.weights_mem_each (j := 1) rfl rfl n hn)
    simpa using this
  obtain ⟨a1, rfl, rfl, rfl, ws1⟩ := open_string Try.underlying9 (hval 1 9 v1 rfl rfl) h1
  have w1 : a1.size ≤ 140737488351232 := by
    have h := hz1 a1.data.toList.length (by simp [DataW.weights])
    rw [Array.length_toList] at h; exact h
  clear hA0 hval0
  simp only [List.append_nil] at hW'
  refine (walk a0 a1 W w0 w1).mono fun e W' ⟨he, bel⟩ => ?_
  subst he
  exact ⟨_, rfl, _, _, _, [], _, [], hW', trodAll_mk1 (shut_bool Try.underlying4 _), (trodAll_cons_mk (Below.trod laidOut (by kernel_rfl) (of_decide_eq_true (by kernel_rfl)) k0 bel lt0) (trodAll_cons_mk (Below.trod laidOut (by kernel_rfl) (of_decide_eq_true (by kernel_rfl)) k1 bel lt1) trodAll_mk0)), rfl, Below.frame bel _, fun h => by cases h⟩

theorem over : Rows.scanRemarksRow.holds Try.pinned (OpenSpec.ofChange Rows.scanRemarksSpec) :=
  OpenClaim.holds_of_wide 7 Try.f7 rfl rfl rfl rfl rfl rfl rfl ⟨rfl, rfl, rfl, rfl, rfl⟩ rfl rfl rfl rfl rfl (by kernel_rfl) Try.func7 (by kernel_rfl)
    (of_decide_eq_true (by kernel_rfl)) (by unfold Func.isWrapper; rw [if_neg (of_decide_eq_false (by kernel_rfl))]; exact ⟨rfl, rfl⟩)
    (fun os started H enc _ => lifted os started H enc)

/-- THE STATEMENT. -/
theorem proved : Rows.ScanRemarksSaid := over
#print axioms proved

end Go.Proofs.Ytlfgofjmcegeiaa.scanRemarks
