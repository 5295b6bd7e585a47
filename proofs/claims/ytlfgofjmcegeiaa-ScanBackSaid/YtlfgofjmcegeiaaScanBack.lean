/-
  The law ScanBack answers true for all lists of tokens. No condition.
-/
import Derived.SizedLaws
import Derived.Deep.CondSized
import Derived.Test.YtlfgofjmcegeiaaRows
import Derived.Test.YtlfgofjmcegeiaaScanX
namespace Go.Proofs.Ytlfgofjmcegeiaa.scanBack
open Go.ChangeShapes Go.WideShapes Go.ChangeAt Go.RowKit
open Go.ChangeMaps (open_string shut_string)
set_option linter.unusedVariables false
set_option linter.unusedSimpArgs false

theorem own : ownKnob Try.prog.godebug = none := by kernel_rfl
theorem laidOut : laidOutB Try.prog = true := by kernel_rfl


theorem kp_blk {w w' : World} {b : Nat} {x : Obj} (hk : Kp w w') (h : w.heap[b]? = some x) : w'.heap[b]? = some x := (hk.block b (blk_lt h)).trans h
theorem tok_one (w : World) : ∀ cs (a : TokenM), CeToken w cs a → ∀ u ∈ cs, u.oneCell' = true := by
  rintro cs a ⟨rfl, _⟩ u hu
  simp at hu
  rcases hu with rfl | rfl | rfl | rfl <;> rfl
set_option maxRecDepth 20000 in
set_option maxHeartbeats 8000000 in
theorem walk (v0 : Value) (a0 : List TokenM) (w : World) (w0 : RdTokensB w v0 a0) :
    Calls Try.prog 9 #[v0] w fun e w' => e = .returned (.bool true) ∧ Kp w w' := by
  obtain ⟨hr, hlen⟩ := w0
  have HR := hid hr
  obtain ⟨A, cc, rfl, _⟩ := hr.form
  obtain ⟨news, hch, hnl, hsrc⟩ := hr.src
  have HCH := hid hch; have HSRC := hid hsrc
  have HNL := hid hch.len
  have HONE := hid (Chunk.one_ (tok_one w) hch)
  have B1 := hid (show 0 + a0.length ≤ maxLen by unfold maxLen; omega)
  have B2 := hid (show (0 + a0.length) * 40 ≤ 140737488355328 by omega)
  clear hr hlen hch hnl hsrc
  go_enter Try.func9, Try.ntmps9
  go_wp2_with (at_builtin; refine app_src elToken ?p0 (.const (.slice none 0 0)) (.tmp 8) ?p1 (World.ownsRow_nil w w.heap.size 41 4) ?p2 news A a0.length cc ?p3 HNL.out HSRC.out HONE.out B1.out B2.out (Nat.le_refl _) ?p8)
  case p0 => rfl
  case p1 => rfl
  case p2 => rfl
  case p3 => rfl
  case p8 =>
    intro v1 w1 hown1 hg1 _ hb1
    have hown : OwnL CeToken 4 41 w1 w.heap.size v1 a0 := ⟨news, by simpa using hown1, Chunk.mono (w := w) (w' := w1) (fun _ _ h => h) HCH.out⟩
    have HO := hid hown
    have HK1 := hid (show Kp w w1 from hb1)
    obtain ⟨A1, c1, rfl, _⟩ := (OwnL.rd hown).form
    clear hown1 hg1 hb1 hown
    go_wp2_with fail
    refine (show_any w1 _ a0 (OwnL.rd HO.out)).mono ?_
    rintro e w2 ⟨h2, hk2⟩
    have HK2 := hid hk2
    clear hk2
    rcases h2 with ⟨hn, hw, hz, rfl⟩ | ⟨er, her, rfl⟩
    · have HN := hid hn; have HW := hid hw; have HZ := hid hz
      obtain ⟨s, hs⟩ : ∃ s, (⟨(showG false a0).toArray⟩ : ByteArray) = s := ⟨_, rfl⟩
      have hsz : s.size ≤ 140737488351232 := by rw [← hs]; simp [ByteArray.size]; omega
      have HS := hid hs
      rw [hs]
      clear hn hw hz hs
      go_wp2_with fail
      refine (toks_any w2 s hsz).mono ?_
      rintro e w3 ⟨h3, hk3⟩
      have HK3 := hid hk3
      clear hk3
      rcases h3 with ⟨l, v, hT, rfl, ho⟩ | ⟨er, hT, e1, e2, rfl⟩
      · have hT2 := hT
        rw [← HS.out] at hT2
        have hlk : Like a0 l true := by
          rcases back_law HW.out HN.out HZ.out hT2 with ⟨l', h1, h2⟩ | ⟨_, a, b, h1⟩
          · injection h1 with h1; subst h1; exact h2
          · cases h1
        have HLK := hid hlk
        have HO3 := hid (OwnL.rd ho)
        obtain ⟨A3, c3, rfl, _⟩ := (OwnL.rd ho).form
        have HB := hid (blk_new w3 (Obj.cells #[.int .i64 0, .int .i64 0, .int .i64 0] 36))
        clear hT hT2 hlk ho hsz
        go_wp2_with first | (go_at_call 18; go_must (refine (three_any _).mono ?_); rintro e w9 ⟨rfl, hk9⟩; have HK9 := hid hk9; have r1 := blk_cell (o := 0) (v := .int .i64 0) (kp_blk hk9 HB.out) rfl; clear hk9) | (go_at_call 20; go_must (refine (alike_yes _ _ _ a0 l true (HR.out.kp CeToken.kp (HK1.out.trans (HK2.out.trans (HK3.out.trans (((Kp.refl w3).alloc _).trans HK9.out))))) (HO3.out.kp CeToken.kp (((Kp.refl w3).alloc _).trans HK9.out)) HLK.out (by have := HN.out; omega)).mono ?_); rintro e w10 ⟨rfl, hk10⟩)
        go_ret
        exact ⟨rfl, HK1.out.trans (HK2.out.trans (HK3.out.trans (((Kp.refl w3).alloc _).trans (HK9.out.trans hk10))))⟩
      · have hT2 := hT
        rw [← HS.out] at hT2
        have h15 : a0.length = 2000 ∧ er.1 = 15 := by
          rcases back_law HW.out HN.out HZ.out hT2 with ⟨l', h1, h2⟩ | ⟨h0, a, b, h1⟩
          · cases h1
          · injection h1 with h1; exact ⟨h0, by rw [h1]⟩
        have t0 : ((a0.length : Int) == 2000) = true := by rw [beq_iff_eq]; omega
        have t1 : (er.1 == 15) = true := by rw [beq_iff_eq]; exact h15.2
        clear hT hT2 h15 hsz e1 e2
        go_wp2_with (go_at_call 18; go_must (refine (three_any _).mono ?_); rintro e w9 ⟨rfl, hk9⟩)
        go_ret
        exact ⟨rfl, HK1.out.trans (HK2.out.trans (HK3.out.trans (((Kp.refl w3).alloc _).trans hk9)))⟩
    · have t0 : (er != 0) = true := by rw [bne_iff_ne]; omega
      clear her
      go_wp2_with (go_at_call 18; go_must (refine (three_any _).mono ?_); rintro e w9 ⟨rfl, hk9⟩)
      go_ret
      exact ⟨rfl, HK1.out.trans (HK2.out.trans hk9)⟩
/-! ### The row's step (the guide's frame, written by program) -/
set_option maxRecDepth 100000 in
theorem lifted (os : Os) (started : os.Started) (H : Type) (enc : TypeId × Value → H) :
    ReturnsInHanded {} Try.checked os 9 .any (Rows.scanBackSpec.pre6 enc Try.prog Try.f9 Rows.scanBackRow.domain false) (Rows.scanBackSpec.post enc Try.prog Try.f9 false true false false) := by
  refine returnsInHanded_of_change_sized (C := Try.checked) own started (by kernel_rfl) Try.func9
    (ChangeSpec.witness6 (enc := enc) (C := Try.checked) false ⟨#[], #[.slice none 0 0], []⟩ 8 (by kernel_rfl) (by kernel_rfl) (by kernel_rfl) (by kernel_rfl)) ?_
  intro W base args ds gs before hval0 hW _ hsz0 _
  have hsz : (DataW.weightsEach Try.prog (Try.f9.params.toList ++ Rows.scanBackSpec.plain.varTypes Try.prog) (ds ++ gs)).all (· ≤ reachBytes) = true := hsz0
  clear hsz0
  have hval : ∀ (j : Nat) t v, Try.f9.params[j]? = some t → args[j]? = some v → Value.okWide Try.prog W .any base t v := hval0
  have hW' := hW
  obtain ⟨p, q, hA0, hV, rfl, hfz, hnd⟩ := hW
  have hA : DataW.TrodAll enc Try.prog W 0 (fun _ => true) true Try.f9.params.toList args.toList ds p := hA0
  rw [Try.params9] at hA hval hsz
  obtain ⟨v0, vs0, d0, ds0, p0, q0, hargs, rfl, rfl, h0, r0⟩ := trodAll_cons hA
  obtain ⟨rfl, rfl, rfl⟩ := trodAll_nil r0
  obtain rfl : args = #[v0] := by cases args; simp_all
  obtain ⟨rfl, rfl⟩ := trodVars_none hV
  have k0 := h0
  have lt0 : ∀ x ∈ p0, x.block < W.heap.size := by obtain ⟨m, hm⟩ := k0; exact DataW.trod_lt m _ _ _ hm
  have hz0 : ∀ n ∈ DataW.weights Try.prog 34 d0, n ≤ reachBytes := fun n hn => by
    have := List.all_eq_true.1 hsz _ (DataW.weights_mem_each (j := 0) rfl rfl n hn)
    simpa using this
  obtain ⟨a0, w0⟩ := open_tokens (hval 0 34 v0 rfl rfl) h0 hz0
  clear hA0 hval0
  simp only [List.append_nil] at hW'
  refine (walk v0 a0 W w0).mono fun e W' ⟨he, bel⟩ => ?_
  subst he
  exact ⟨_, rfl, _, _, _, [], _, [], hW', trodAll_mk1 (shut_bool Try.underlying4 _), (trodAll_cons_mk (Below.trod laidOut (by kernel_rfl) (of_decide_eq_true (by kernel_rfl)) k0 bel lt0) trodAll_mk0), rfl, Below.frame bel _, fun h => by cases h⟩

theorem over : Rows.scanBackRow.holds Try.pinned (OpenSpec.ofChange Rows.scanBackSpec) :=
  OpenClaim.holds_of_wide 9 Try.f9 rfl rfl rfl rfl rfl rfl rfl ⟨rfl, rfl, rfl, rfl, rfl⟩ rfl rfl rfl rfl rfl (by kernel_rfl) Try.func9 (by kernel_rfl)
    (of_decide_eq_true (by kernel_rfl)) (by unfold Func.isWrapper; rw [if_neg (of_decide_eq_false (by kernel_rfl))]; exact ⟨rfl, rfl⟩)
    (fun os started H enc _ => lifted os started H enc)

/-- THE STATEMENT. -/
theorem proved : Rows.ScanBackSaid := over
#print axioms proved

end Go.Proofs.Ytlfgofjmcegeiaa.scanBack
