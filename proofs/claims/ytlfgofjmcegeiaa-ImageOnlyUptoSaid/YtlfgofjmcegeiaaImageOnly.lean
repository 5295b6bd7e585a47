/-
  The law ImageOnly answers true for every list of bytes of at most 2^20. Condition: the bound of the Upto statement.
-/
import Derived.SizedLaws
import Derived.Deep.CondSized
import Derived.Test.YtlfgofjmcegeiaaRows
import Derived.Test.YtlfgofjmcegeiaaCodeS
import Derived.Test.YtlfgofjmcegeiaaImgPk
import Derived.Test.YtlfgofjmcegeiaaImgU
import Derived.Test.YtlfgofjmcegeiaaRd
namespace Go.Proofs.Ytlfgofjmcegeiaa.imageOnly
open Go.ChangeShapes Go.WideShapes Go.ChangeAt Go.RowKit
open Go.ChangeMaps (open_string shut_string)
set_option linter.unusedVariables false
set_option linter.unusedSimpArgs false

theorem own : ownKnob Try.prog.godebug = none := by kernel_rfl
theorem laidOut : laidOutB Try.prog = true := by kernel_rfl


open Go.Deep
theorem bulk_one {H : Type} (d : DataW H) : 1 ≤ Rows.uptoBulk d := by
  cases d with
  | lit l => cases l <;> simp [Rows.uptoBulk]
  | nil => simp [Rows.uptoBulk]
  | ptr d => simp [Rows.uptoBulk]
  | slice elems spare => simp [Rows.uptoBulk]
  | agg parts => simp [Rows.uptoBulk]
  | iface t d => simp [Rows.uptoBulk]
  | map entries => simp [Rows.uptoBulk]
  | held h => simp [Rows.uptoBulk]
theorem bulk_len {H : Type} (l : List (DataW H)) : l.length ≤ Rows.uptoBulkAll l := by
  induction l with
  | nil => simp [Rows.uptoBulkAll]
  | cons x r ih => have := bulk_one x; simp only [Rows.uptoBulkAll, List.length_cons]; omega
def RdBytesU (w : World) (v : Value) (bs : List UInt8) : Prop := RdBytes w v bs ∧ bs.length ≤ 1048576
section
variable {H : Type} {enc : TypeId × Value → H} {W : World} {base : Nat} {v : Value} {d : DataW H} {p : List MemPlace}
theorem bytes_bulk {fuel : Nat} {cs : List Value} {A : Option Addr} {n c : Nat} (hf : DataW.trod enc Try.prog W 0 (fun _ => true) true fuel 54 cs = some (d, p)) (hcs : cs = [.slice A n c]) : n + 1 ≤ Rows.uptoBulk d := by
  rcases open_ints Try.underlying54 Try.underlying5 (by kernel_rfl) hf with ⟨h1, hx⟩ | ⟨a, len, cap, zs, h1, _, hl, hm, hzl, hx, _⟩
  · rw [h1] at hcs
    cases hcs
    simp only [Prod.mk.injEq] at hx
    rw [hx.1]; simp [Rows.uptoBulk]
  · rw [h1] at hcs
    cases hcs
    simp only [Prod.mk.injEq] at hx
    simp only [if_true] at hzl
    rw [hx.1]
    simp only [Rows.uptoBulk]
    have := bulk_len (lits (H := H) .u8 (zs.take n))
    simp only [lits, List.length_map, List.length_take] at this
    simp only [lits]
    omega
set_option maxRecDepth 100000 in
theorem open_bytesU (hval : Value.okWide Try.prog W .any base 54 v) (h : DataW.Trod enc Try.prog W 0 (fun _ => true) true 54 v d p) (hz : ∀ n ∈ DataW.weights Try.prog 54 d, n ≤ reachBytes) (hb : Rows.uptoBulk d ≤ 1048576) : ∃ bs, RdBytesU W v bs := by
  obtain ⟨bs, hr, _⟩ := open_bytes hval h hz
  refine ⟨bs, hr, ?_⟩
  obtain ⟨_, A, c, rfl, _⟩ := hr
  obtain ⟨fuel, hf⟩ := h
  have := bytes_bulk hf rfl
  omega
end
theorem pack_least_len : 10 ≤ (packB leastM).length := by
  rw [pack_len]
  have h : 1 ≤ (encC leastM).length := by unfold encC; rw [List.length_append]; have := encN_pos (leastM.texts.length : Int); omega
  rw [List.length_append]
  have : headB.length = 5 := rfl
  omega
theorem pack_len_le {c : CodeM} (hs : (soundM c).1 = 0) (ho : okNums c) : (packB c).length ≤ 500000004 := by
  have h := (pack_bound hs ho).2.2.2 c.funcs.length
  rw [packF_all] at h
  rw [pack_len]; omega
theorem pack_least : ∃ X : List UInt8, X = packB leastM ∧ 10 ≤ X.length ∧ X.length ≤ 500000004 ∧ ∀ (w : World) (v : Value), RdCode w v leastM → Calls Try.prog 24 #[v] w fun e w' => (∃ A c, e = .returned (.tuple #[.slice A X.length c, .int .i64 0]) ∧ OwnB w' w.heap.size (.slice A X.length c) X) ∧ Kp w w' := by
  have ho : okNums leastM := fun f hf i hi => by
    unfold leastM at hf; simp at hf; subst hf; simp at hi; subst hi
    exact ⟨⟨by decide, by decide⟩, ⟨by decide, by decide⟩, ⟨by decide, by decide⟩, ⟨by decide, by decide⟩, ⟨by decide, by decide⟩, ⟨by decide, by decide⟩⟩
  have hs : (soundM leastM).1 = 0 := by rw [least_sound]
  refine ⟨_, rfl, pack_least_len, pack_len_le hs ho, fun w v h => (pack_ok w v leastM h hs).mono ?_⟩
  rintro e w' ⟨⟨v', rfl, hown⟩, hk⟩
  obtain ⟨A, c, rfl⟩ := own_form hown
  exact ⟨⟨A, c, rfl, hown⟩, hk⟩
theorem unpack_cases (l : List UInt8) : (∃ c, unpackM l = (c, 0) ∧ (soundM c).1 = 0 ∧ packB c = l) ∨ ∃ er : Int, 1 ≤ er ∧ unpackM l = (⟨[], []⟩, er) := by
  by_cases h0 : (unpackM l).2 = 0
  · left
    have h : unpackM l = ((unpackM l).1, 0) := by rw [← h0]
    obtain ⟨_, h2, h3⟩ := pack_unpack h
    exact ⟨_, h, h2, h3⟩
  · right
    unfold unpackM at h0 ⊢
    split at h0
    · rename_i h; rw [if_pos h]; exact ⟨6, by omega, rfl⟩
    rename_i h1
    rw [if_neg h1]
    split at h0
    · rename_i h; rw [if_pos h]; exact ⟨18, by omega, rfl⟩
    rename_i h2
    rw [if_neg h2]
    split at h0
    · rename_i h; rw [if_pos h]; exact ⟨6, by omega, rfl⟩
    rename_i h3
    rw [if_neg h3]
    split at h0
    · rename_i h; rw [if_pos h]; exact ⟨6, by omega, rfl⟩
    · exact absurd rfl h0
set_option maxRecDepth 20000 in
set_option maxHeartbeats 8000000 in
theorem walk (v0 : Value) (a0 : List UInt8) (w : World) (w0 : RdBytesU w v0 a0) :
    Calls Try.prog 12 #[v0] w fun e w' => e = .returned (.bool true) ∧ Kp w w' := by
  obtain ⟨hr, hlen⟩ := w0
  have HR := hid hr
  obtain ⟨_, A0, c0, rfl, _⟩ := hr
  have HLEN := hid hlen
  clear hlen
  obtain ⟨X, hxe, hx1, hx2, hpl⟩ := pack_least
  clear hxe
  have HPL := hid hpl
  have i10 : ¬ (X.length : Int) < 10 := by omega
  have i11 : (10 : Int) ≤ (X.length : Int) := by omega
  clear hpl hx1 hx2
  rcases unpack_cases a0 with ⟨c, hu, hs, hp⟩ | ⟨er, her, hu⟩
  · have HU := hid hu
    have HS := hid hs
    have HP := hid hp
    clear hu hs hp
    go_enter Try.func12, Try.ntmps12
    go_upto_region 2 with first | (at_builtin; go_must (refine app_src elByte rfl (.const (.slice none 0 0)) (.tmp 10) rfl (World.ownsRow_nil _ w.heap.size _ _) rfl (a0.map byteV) _ _ _ rfl (by simp) (HR.out.src).2 (oneByte _) (by have := HLEN.out; unfold maxLen; omega) (by have := HLEN.out; omega) (Nat.le_refl _) ?_); intro v1 w1 hown1 hg1 hm1 hb1; have HB1 : Hid (OwnB w1 w.heap.size v1 a0) := hid (by unfold OwnB; rw [Nat.zero_add] at hown1; exact hown1); have HK1 := hid (show Kp w w1 from hb1); clear hown1 hg1 hm1 hb1) | (go_at_call 26; go_must (refine (unpack_any _ _ a0 (RdBytes.of_own HB1.out (by have := HLEN.out; omega)) (by have := HLEN.out; omega)).mono ?_); unfold UnP; rw [HU.out]; rintro e w2 ⟨⟨v2, rfl, ho2⟩, hk2⟩; obtain ⟨vf, vt, rfl, hof, hot, hlf, hlt⟩ := ho2; obtain ⟨A5, c5, rfl⟩ := (show ∃ A cc, vf = .slice A c.funcs.length cc by obtain ⟨xs, h, _⟩ := hof; exact own_form h); obtain ⟨A6, c6, rfl⟩ := (show ∃ A cc, vt = .slice A c.texts.length cc by obtain ⟨xs, h, _⟩ := hot; exact own_form h); have HO2 := hid (OCode.rd (show OCode _ _ _ c from ⟨_, _, rfl, hof, hot, hlf, hlt⟩)); have HK2 := hid (Kp.trans HK1.out hk2); clear hof hot hlf hlt hk2)
    have HBC := hid (blk_new w2 (.cells #[.slice A5 c.funcs.length c5, .slice A6 c.texts.length c6] 53))
    have HK2b := hid (HK2.out.alloc (.cells #[.slice A5 c.funcs.length c5, .slice A6 c.texts.length c6] 53))
    have HO2b := hid (HO2.out.kp ((Kp.refl _).alloc (.cells #[.slice A5 c.funcs.length c5, .slice A6 c.texts.length c6] 53)))
    generalize (w2.alloc (.cells #[.slice A5 c.funcs.length c5, .slice A6 c.texts.length c6] 53)) = W2 at HBC HK2b HO2b ⊢
    generalize w2.heap.size = n2 at HBC ⊢
    go_upto_region 3 with first | (go_at_call 29; go_must (refine (least_any _).mono ?_); rintro e w3 ⟨⟨v3, rfl, ho3⟩, hk3⟩; have HO3 := hid ho3; have HK3 := hid (Kp.trans HK2b.out hk3); have HB3 := hid ((hk3.block _ (blk_lt HBC.out)).trans HBC.out); have HK23 := hid hk3; clear ho3 hk3) | (go_at_call 24; go_must (refine (HPL.out _ _ HO3.out.rd).mono ?_); rintro e w4 ⟨⟨A4, c4, rfl, hx4⟩, hk4⟩; have HK4 := hid (Kp.trans HK3.out hk4); have HB4 := hid ((hk4.block _ (blk_lt HB3.out)).trans HB3.out); have HK24 := hid (Kp.trans HK23.out hk4); have q0 := blk_cell (o := 0) (v := Value.slice A5 c.funcs.length c5) HB4.out rfl; have q1 := blk_cell (o := 1) (v := Value.slice A6 c.texts.length c6) HB4.out rfl; have ql := blk_lt HB4.out; clear hx4 hk4)
    go_upto_region 6 with (go_at_call 24; go_must (refine (pack_ok _ _ c (HO2b.out.kp HK24.out) HS.out).mono ?_); rintro e w5 ⟨⟨v5, rfl, hp5⟩, hk5⟩; rw [HP.out] at hp5; obtain ⟨A7, c7, rfl⟩ := own_form hp5; have HK5 := hid (Kp.trans HK4.out hk5); have t1 := (RdBytes.of_own hp5 (by have := HLEN.out; omega)).str; have t2 := (HR.out.kp HK5.out).str; clear hp5 hk5)
    have tt : (a0 == a0) = true := by simp
    go_wp2
    go_ret
    exact ⟨rfl, HK5.out⟩
  · have HU := hid hu
    have e9 : (er != 0) = true := by simp; omega
    clear hu her
    go_enter Try.func12, Try.ntmps12
    go_upto_region 2 with first | (at_builtin; go_must (refine app_src elByte rfl (.const (.slice none 0 0)) (.tmp 10) rfl (World.ownsRow_nil _ w.heap.size _ _) rfl (a0.map byteV) _ _ _ rfl (by simp) (HR.out.src).2 (oneByte _) (by have := HLEN.out; unfold maxLen; omega) (by have := HLEN.out; omega) (Nat.le_refl _) ?_); intro v1 w1 hown1 hg1 hm1 hb1; have HB1 : Hid (OwnB w1 w.heap.size v1 a0) := hid (by unfold OwnB; rw [Nat.zero_add] at hown1; exact hown1); have HK1 := hid (show Kp w w1 from hb1); clear hown1 hg1 hm1 hb1) | (go_at_call 26; go_must (refine (unpack_any _ _ a0 (RdBytes.of_own HB1.out (by have := HLEN.out; omega)) (by have := HLEN.out; omega)).mono ?_); unfold UnP; rw [HU.out]; rintro e w2 ⟨⟨v2, rfl, ho2⟩, hk2⟩; obtain ⟨vf, vt, rfl, hof, hot, hlf, hlt⟩ := ho2; obtain ⟨A5, c5, rfl⟩ := (show ∃ A cc, vf = .slice A 0 cc by obtain ⟨xs, h, _⟩ := hof; exact own_form h); obtain ⟨A6, c6, rfl⟩ := (show ∃ A cc, vt = .slice A 0 cc by obtain ⟨xs, h, _⟩ := hot; exact own_form h); have HK2 := hid (Kp.trans HK1.out hk2); clear hof hot hlf hlt hk2)
    have HBC := hid (blk_new w2 (.cells #[.slice A5 0 c5, .slice A6 0 c6] 53))
    have HK2b := hid (HK2.out.alloc (.cells #[.slice A5 0 c5, .slice A6 0 c6] 53))
    generalize (w2.alloc (.cells #[.slice A5 0 c5, .slice A6 0 c6] 53)) = W2 at HBC HK2b ⊢
    generalize w2.heap.size = n2 at HBC ⊢
    go_wp2_with first | (go_at_call 29; go_must (refine (least_any _).mono ?_); rintro e w3 ⟨⟨v3, rfl, ho3⟩, hk3⟩; have HO3 := hid ho3; have HK3 := hid (Kp.trans HK2b.out hk3); have HB3 := hid ((hk3.block _ (blk_lt HBC.out)).trans HBC.out); clear ho3 hk3) | (go_at_call 24; go_must (refine (HPL.out _ _ HO3.out.rd).mono ?_); rintro e w4 ⟨⟨A4, c4, rfl, hx4⟩, hk4⟩; have HK4 := hid (Kp.trans HK3.out hk4); have HB4 := hid ((hk4.block _ (blk_lt HB3.out)).trans HB3.out); have q0 := blk_cell (o := 0) (v := Value.slice A5 0 c5) HB4.out rfl; have q1 := blk_cell (o := 1) (v := Value.slice A6 0 c6) HB4.out rfl; have ql := blk_lt HB4.out; clear hx4 hk4)
    go_ret
    exact ⟨rfl, HK4.out⟩
/-! ### The row's step (the guide's frame, written by program) -/
set_option maxRecDepth 100000 in
theorem lifted (os : Os) (started : os.Started) (H : Type) (enc : TypeId × Value → H) (F : Stop.Interp) :
    ReturnsInHanded {} Try.checked os 12 .any ((Rows.OpenSpec.upto Rows.imageOnlySpec).pre6 enc Try.prog Try.f12 Rows.imageOnlyUptoRow.domain false) (((Rows.OpenSpec.upto Rows.imageOnlySpec).at F).post enc Try.prog Try.f12 false true false false) := by
  refine returnsInHanded_of_cond_sized (C := Try.checked) (s := Rows.OpenSpec.upto Rows.imageOnlySpec) (k := Rows.uptoSmall) rfl own started (by kernel_rfl) Try.func12
    (OpenSpec.witness (enc := enc) (C := Try.checked) (s := Rows.OpenSpec.upto Rows.imageOnlySpec) (k := Rows.uptoSmall) rfl false ⟨#[], #[.slice none 0 0], []⟩ 8 (by kernel_rfl) (by kernel_rfl) (by kernel_rfl)
      (x := ([.nil], [], [])) (by kernel_rfl) rfl (by kernel_rfl)) ?_
  intro W base args ds gs before hval0 hW _ hk0 hsz0 _
  have hsz : (DataW.weightsEach Try.prog (Try.f12.params.toList ++ (Rows.OpenSpec.upto Rows.imageOnlySpec).bare.plain.varTypes Try.prog) (ds ++ gs)).all (· ≤ reachBytes) = true := hsz0
  clear hsz0
  have hval : ∀ (j : Nat) t v, Try.f12.params[j]? = some t → args[j]? = some v → Value.okWide Try.prog W .any base t v := hval0
  have hW' := hW
  obtain ⟨p, q, hA0, hV, rfl, hfz, hnd⟩ := hW
  have hA : DataW.TrodAll enc Try.prog W 0 (fun _ => true) true Try.f12.params.toList args.toList ds p := hA0
  rw [Try.params12] at hA hval hsz
  obtain ⟨v0, vs0, d0, ds0, p0, q0, hargs, rfl, rfl, h0, r0⟩ := trodAll_cons hA
  obtain ⟨rfl, rfl, rfl⟩ := trodAll_nil r0
  obtain rfl : args = #[v0] := by cases args; simp_all
  obtain ⟨rfl, rfl⟩ := trodVars_none hV
  have hbk : Rows.uptoBulkAll [d0] ≤ 1048576 := of_decide_eq_true hk0
  simp only [Rows.uptoBulkAll] at hbk
  have hb0 : Rows.uptoBulk d0 ≤ 1048576 := by omega
  clear hk0 hbk
  have k0 := h0
  have lt0 : ∀ x ∈ p0, x.block < W.heap.size := by obtain ⟨m, hm⟩ := k0; exact DataW.trod_lt m _ _ _ hm
  have hz0 : ∀ n ∈ DataW.weights Try.prog 54 d0, n ≤ reachBytes := fun n hn => by
    have := List.all_eq_true.1 hsz _ (DataW.weights_mem_each (j := 0) rfl rfl n hn)
    simpa using this
  obtain ⟨a0, w0⟩ := open_bytesU (hval 0 54 v0 rfl rfl) h0 hz0 hb0
  clear hA0 hval0
  simp only [List.append_nil] at hW'
  refine (walk v0 a0 W w0).mono fun e W' ⟨he, bel⟩ => ?_
  subst he
  exact ⟨_, rfl, _, _, _, [], _, [], hW', trodAll_mk1 (shut_bool Try.underlying4 _), (trodAll_cons_mk (Below.trod laidOut (by kernel_rfl) (of_decide_eq_true (by kernel_rfl)) k0 bel lt0) trodAll_mk0), rfl, Below.frame bel _, fun h => by cases h⟩

theorem over : Rows.imageOnlyUptoRow.holds Try.pinned (Rows.OpenSpec.upto Rows.imageOnlySpec) :=
  OpenClaim.holds_of_cond 12 Try.f12 rfl rfl rfl rfl rfl rfl rfl ⟨rfl, rfl, rfl, rfl, rfl⟩ rfl rfl rfl rfl rfl (by kernel_rfl) Try.func12 (by kernel_rfl)
    (of_decide_eq_true (by kernel_rfl)) (by unfold Func.isWrapper; rw [if_neg (of_decide_eq_false (by kernel_rfl))]; exact ⟨rfl, rfl⟩)
    (fun os started H enc _ F => lifted os started H enc F)

/-- THE STATEMENT. -/
theorem proved : Rows.ImageOnlyUptoSaid := over
#print axioms proved

end Go.Proofs.Ytlfgofjmcegeiaa.imageOnly
