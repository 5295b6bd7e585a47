/-
  Package image: Unpack. Condition: at most 2^30 bytes.
-/
import Derived.Test.YtgonekmmbeedeaaImgC
import Derived.Test.YtgonekmmbeedeaaSoundS
namespace Go.Proofs.Ytgonekmmbeedeaa
open Go.RowKit
set_option linter.unusedVariables false
set_option linter.unusedSimpArgs false

theorem i64_join8 (a b : Nat) (ha : a < 16777216) (hb : b < 256) : bits .or .i64 ((a : Int) * 256) (b : Int) = ((a * 256 + b : Nat) : Int) := by
  have h1 := u64_or_nat (a * 256) b (by omega) (by omega)
  rw [nat_join 8 (a * 256) b (by omega) (by omega)] at h1
  have e : ∀ x y : Int, bits .or .i64 x y = IntKind.i64.wrap (bits .or .u64 x y) := by
    intro x y
    show IntKind.i64.wrap ((BitVec.ofInt 64 x ||| BitVec.ofInt 64 y).toNat : Int) = IntKind.i64.wrap (IntKind.u64.wrap ((BitVec.ofInt 64 x ||| BitVec.ofInt 64 y).toNat : Int))
    generalize (BitVec.ofInt 64 x ||| BitVec.ofInt 64 y).toNat = n
    rw [IntKind.wrap_i64, IntKind.wrap_i64, IntKind.wrap_u64]; omega
  rw [e]
  have e2 : ((a : Int) * 256) = ((a * 256 : Nat) : Int) := by omega
  rw [e2, h1, IntKind.wrap_i64]; omega
theorem beV_take {l : List UInt8} {k : Nat} (h : k < l.length) : beV (l.take (k + 1)) = beV (l.take k) * 256 + (l.getD k 0).toNat := by
  have e : l.take (k + 1) = l.take k ++ [l.getD k 0] := by
    rw [List.take_add_one]; simp [List.getD, List.getElem?_eq_getElem h]
  rw [e]; unfold beV; rw [List.foldl_append]; rfl
theorem beV_lt : ∀ (l : List UInt8), beV l < 256 ^ l.length := by
  have key : ∀ (l : List UInt8) (s n : Nat), s < 256 ^ n → l.foldl (fun s c => s * 256 + c.toNat) s < 256 ^ (n + l.length) := by
    intro l
    induction l with
    | nil => intro s n h; exact h
    | cons c l ih =>
      intro s n h
      rw [List.foldl_cons, List.length_cons, show n + (l.length + 1) = (n + 1) + l.length by omega]
      refine ih _ _ ?_
      have hc := UInt8.toNat_lt c
      rw [Nat.pow_succ]; omega
  intro l
  have := key l 0 0 (by simp)
  rw [Nat.zero_add] at this; exact this
def zC : Value := .agg #[.slice none 0 0, .slice none 0 0]
theorem OCode.zero (w : World) (base : Nat) : OCode w base (.agg #[.slice none 0 0, .slice none 0 0]) ⟨[], []⟩ := ⟨_, _, rfl, OwnL.nil _ _ _ _ _, OwnL.nil _ _ _ _ _, by simp, by simp⟩
/-- What Unpack answers. -/
def UnP (w : World) (r : CodeM × Int) (e : Ending) (w' : World) : Prop := (∃ v, e = .returned (.tuple #[v, .int .i64 r.2]) ∧ OCode w' w.heap.size v r.1) ∧ Kp w w'
theorem un_short {l : List UInt8} (h : (l.length : Int) - 4 < 5) : unpackM l = (⟨[], []⟩, 6) := by unfold unpackM; rw [if_pos (.inl h)]
theorem un_head {l : List UInt8} (h : l.take 5 ≠ headB) : unpackM l = (⟨[], []⟩, 6) := by unfold unpackM; rw [if_pos (.inr h)]
theorem un_sum {l : List UInt8} (h : ¬ (l.length : Int) - 4 < 5) (h2 : l.take 5 = headB) (h3 : sumM (l.take (l.length - 4)) ≠ beV (l.drop (l.length - 4))) : unpackM l = (⟨[], []⟩, 18) := by
  unfold unpackM; rw [if_neg (by rintro (h4 | h4); exact h h4; exact h4 h2), if_pos h3]
theorem un_rest {l : List UInt8} (h : ¬ (l.length : Int) - 4 < 5) (h2 : l.take 5 = headB) (h3 : sumM (l.take (l.length - 4)) = beV (l.drop (l.length - 4))) :
    ((codeR ⟨(l.take (l.length - 4)).drop 5, false⟩).2.bad = true ∨ 0 < (codeR ⟨(l.take (l.length - 4)).drop 5, false⟩).2.b.length → unpackM l = (⟨[], []⟩, 6)) ∧
    (¬ ((codeR ⟨(l.take (l.length - 4)).drop 5, false⟩).2.bad = true ∨ 0 < (codeR ⟨(l.take (l.length - 4)).drop 5, false⟩).2.b.length) → (soundM (codeR ⟨(l.take (l.length - 4)).drop 5, false⟩).1).1 ≠ 0 → unpackM l = (⟨[], []⟩, 6)) ∧
    (¬ ((codeR ⟨(l.take (l.length - 4)).drop 5, false⟩).2.bad = true ∨ 0 < (codeR ⟨(l.take (l.length - 4)).drop 5, false⟩).2.b.length) → (soundM (codeR ⟨(l.take (l.length - 4)).drop 5, false⟩).1).1 = 0 → unpackM l = ((codeR ⟨(l.take (l.length - 4)).drop 5, false⟩).1, 0)) := by
  have h1 : ¬ ((l.length : Int) - 4 < 5 ∨ l.take 5 ≠ headB) := by rintro (h4 | h4); exact h h4; exact h4 h2
  refine ⟨fun hb => ?_, fun hb hs => ?_, fun hb hs => ?_⟩
  · unfold unpackM; rw [if_neg h1, if_neg (by simpa using h3), if_pos hb]
  · unfold unpackM; rw [if_neg h1, if_neg (by simpa using h3), if_neg hb, if_pos hs]
  · unfold unpackM; rw [if_neg h1, if_neg (by simpa using h3), if_neg hb, if_neg (by simpa using hs)]
theorem OCode.touch {w w' : World} {B b : Nat} {v : Value} {c : CodeM} (h : OCode w B v c) (ht : Touch 25 w w') (hb : b ≤ B) : OCode w' b v c := by
  obtain ⟨vf, vt, rfl, h1, h2, h3, h4⟩ := h
  exact ⟨vf, vt, rfl, OwnL.base_ hb (ownL_touch (by decide) (fun _ _ x => x.touch (by decide) ht) (OwnL.mono (fun _ _ x => x.base_ hb) h1) ht), OwnL.base_ hb (ownL_touch (by decide) (fun _ _ x => CeStr.any x) h2 ht), h3, h4⟩
set_option maxRecDepth 20000 in
set_option maxHeartbeats 16000000 in
theorem unpack_any (w : World) (v : Value) (bs : List UInt8) (h : RdBytes w v bs) (hsz : bs.length ≤ 1073741824) : Calls Try.prog 12 #[v] w (UnP w (unpackM bs)) := by
  have HR := hid h
  obtain ⟨hl, A, cap, rfl, hcap, _⟩ := h
  have HK0 := hid (show Kp w (w.alloc (.cells #[.slice none 0 0, .slice none 0 0] 25)) from (Kp.refl _).alloc _)
  have k40 : IntKind.i64.wrap ((bs.length : Int) - 4) = (bs.length : Int) - 4 := by rw [IntKind.wrap_i64]; omega
  by_cases h5 : (bs.length : Int) - 4 < 5
  · have HU := hid (un_short h5)
    go_enter Try.func12, Try.ntmps12
    go_wp2
    refine bodyPost_ret (v := .tuple #[.agg #[.slice none 0 0, .slice none 0 0], .int .i64 6]) (by simp [results, Try.results12, go_sem]) rfl ?_
    rw [HU.out]
    exact ⟨⟨_, rfl, OCode.zero _ _⟩, (Kp.refl _).alloc _⟩
  clear k40
  obtain ⟨n, hn⟩ : ∃ n, bs.length = n + 4 := ⟨bs.length - 4, by omega⟩
  have hk4 : (bs.length : Int) - 4 = (n : Int) := by omega
  rw [hk4] at h5
  have k4 : IntKind.i64.wrap ((bs.length : Int) - 4) = (n : Int) := by rw [IntKind.wrap_i64]; omega
  have hn5 : 5 ≤ n := by omega
  have HN := hid hn
  have s1 : ∀ w' : World, Sem.run Try.prog (Instr.slice 26 (.slice A bs.length cap) none (some (.int .i64 5)) none) w' = .ok (.slice A 5 cap) w' := fun w' => sl_h A bs.length cap 5 (by omega) w'
  have s2 := sl_l A bs.length cap n (by omega)
  have s3 := sl_h A bs.length cap n (by omega)
  have s4 : ∀ w' : World, Sem.run Try.prog (Instr.slice 26 (.slice A bs.length cap) (some (.int .i64 5)) (some (.int .i64 (n : Int))) none) w' = .ok (.slice (cutA A cap 5) (n - 5) (cap - 5)) w' := fun w' => sl_lh A bs.length cap 5 n hn5 (by omega) w'
  have HRD := hid (HR.out.drop (k := n) (by omega))
  have HRT := hid (HR.out.take (k := n) (by omega))
  have HRP := hid ((HR.out.take (k := n) (by omega)).drop (k := 5) hn5)
  rw [show bs.length - n = 4 by omega] at s2 HRD
  have HS5 := ((HR.out.take (k := 5) (by omega)).kp HK0.out).str
  generalize cutA A cap n = AD at s2 HRD
  generalize cutA A cap 5 = AP at s4 HRP
  have hlt5 : ¬ (n : Int) < 5 := h5
  clear h5 hk4
  by_cases hh : bs.take 5 = headB
  · rw [hh] at HS5
    have HH := hid hh
    have HDL : Hid ((bs.drop n).length = 4) := hid (by rw [List.length_drop]; omega)
    have HUS : Hid (sumM (bs.take n) ≠ beV (bs.drop n) → unpackM bs = (⟨[], []⟩, 18)) := hid (fun h => un_sum (by omega) HH.out (by rw [show bs.length - 4 = n by omega]; exact h))
    have HS6 : Sem.run Try.prog (convert 26 9 (.slice A 5 cap)) (w.alloc (.cells #[.slice none 0 0, .slice none 0 0] 25)) = .ok (.string ⟨#[114, 111, 97, 100, 49]⟩) (w.alloc (.cells #[.slice none 0 0, .slice none 0 0] 25)) := HS5
    clear hh hn HS5
    go_enter Try.func12, Try.ntmps12
    go_wp2_with fail
    go_loopw [5, 27] (fun x i wr => ∃ k : Nat, k ≤ 4 ∧ i = .int .i64 (k : Int) ∧ x = .int .i64 (beV ((bs.drop n).take k) : Nat) ∧ wr = w.alloc (.cells #[.slice none 0 0, .slice none 0 0] 25)) (fun _ i _ => 4 - (intOf i).toNat)
    case atStart => exact ⟨0, Nat.zero_le _, rfl, rfl, rfl⟩
    case round =>
      obtain ⟨k, hk, rfl, rfl, rfl⟩ := hrel
      by_cases hlt : k < 4
      · have i1 : (k : Int) < 4 := by omega
        have k1 : IntKind.i64.wrap ((k : Int) + 1) = (k : Int) + 1 := by rw [IntKind.wrap_i64]; omega
        obtain ⟨hl4, A', c', e1, e2, hcell⟩ := HRD.out.kp HK0.out
        injection e1 with e1 e3 e4
        subst e1; subst e4
        obtain ⟨b, off, rfl, hb, hc⟩ := hcell (by rw [HDL.out]; omega)
        have hck := hc k (by rw [HDL.out]; exact hlt)
        have HBT := hid (beV_take (l := bs.drop n) (k := k) (by rw [HDL.out]; exact hlt))
        generalize hcv : ((bs.drop n).getD k 0).toNat = cv at HBT
        have hcb : cv < 256 := by rw [← hcv]; exact UInt8.toNat_lt _
        unfold byteV at hck
        rw [hcv] at hck
        have hS : beV ((bs.drop n).take k) < 16777216 := by
          have h1 := beV_lt ((bs.drop n).take k)
          have h2 : ((bs.drop n).take k).length ≤ 3 := by rw [List.length_take]; omega
          have h3 : (256 : Nat) ^ ((bs.drop n).take k).length ≤ 256 ^ 3 := Nat.pow_le_pow_right (by omega) h2
          omega
        generalize beV ((bs.drop n).take k) = S at hS HBT ⊢
        have k2 : IntKind.i64.wrap ((S : Int) * 256) = (S : Int) * 256 := by rw [IntKind.wrap_i64]; omega
        have k3 := i64_join8 S cv hS hcb
        clear hl4 e2 e3 hcell hc hcv
        go_wp2
        exact ⟨⟨k + 1, hlt, (by congr 1), (by rw [HBT.out]; exact congrArg (Value.int .i64) (by omega)), trivial⟩, by simp only [intOf, Int.toNat_natCast]; omega⟩
      · have i1 : ¬ (k : Int) < 4 := by omega
        obtain rfl : k = 4 := by omega
        have htk : (bs.drop n).take 4 = bs.drop n := List.take_of_length_le (by rw [HDL.out]; omega)
        rw [htk]
        clear htk hlt hk
        have hTS := sum_any _ _ (w.alloc (.cells #[.slice none 0 0, .slice none 0 0] 25)) (HRT.out.kp HK0.out)
        by_cases hsum : sumM (bs.take n) = beV (bs.drop n)
        · have HSE := hid hsum
          clear hsum
          have HUR := hid (un_rest (l := bs) (by have := HN.out; omega) HH.out (by rw [show bs.length - 4 = n by have := HN.out; omega, HSE.out]))
          rw [show bs.length - 4 = n by have := HN.out; omega] at HUR
          rw [HSE.out] at hTS
          generalize beV (bs.drop n) = S at hTS ⊢
          have HPL : Hid (((bs.take n).drop 5).length = n - 5) := hid (by have := HN.out; rw [List.length_drop, List.length_take]; omega)
          generalize (bs.take n).drop 5 = P at HRP HPL HUR
          go_upto_region 13 with (go_at_call 28; go_must (refine hTS.mono ?_); rintro e w9 ⟨rfl, rfl⟩)
          have HRB : Hid (RdrB w ((w.alloc (.cells #[.slice none 0 0, .slice none 0 0] 25)).alloc (.cells #[.slice AP (n - 5) (cap - 5), .bool false] 73)) (w.heap.size + 1) ⟨P, false⟩) := hid ⟨AP, cap - 5, by rw [HPL.out]; have h := blk_new (w.alloc (.cells #[.slice none 0 0, .slice none 0 0] 25)) (.cells #[.slice AP (n - 5) (cap - 5), .bool false] 73); rw [World.size_alloc] at h; exact h, by rw [HPL.out]; exact HRP.out⟩
          have HRS := hid (blk_old (blk_new w (.cells #[.slice none 0 0, .slice none 0 0] 25)) (.cells #[.slice AP (n - 5) (cap - 5), .bool false] 73))
          have HK1 := hid (HK0.out.alloc (.cells #[.slice AP (n - 5) (cap - 5), .bool false] 73))
          have HW1 : Hid (((w.alloc (.cells #[.slice none 0 0, .slice none 0 0] 25)).alloc (.cells #[.slice AP (n - 5) (cap - 5), .bool false] 73)).heap.size = w.heap.size + 1 + 1) := hid (by simp)
          generalize ((w.alloc (.cells #[.slice none 0 0, .slice none 0 0] 25)).alloc (.cells #[.slice AP (n - 5) (cap - 5), .bool false] 73)) = W1 at HRB HRS HK1 HW1 ⊢
          have hcode := rcode_any w W1 (w.heap.size + 1) ⟨P, false⟩ HRB.out HK1.out (Nat.le_succ _) (by show P.length ≤ _; rw [HPL.out]; have := HN.out; omega)
          generalize codeR ⟨P, false⟩ = R at hcode HUR
          obtain ⟨⟨fs, ts⟩, ⟨rbs, bad⟩⟩ := R
          simp only at hcode HUR
          go_upto_region 14 with (go_at_call 29; go_must (refine hcode.mono ?_); rintro e w2 ⟨⟨v2, rfl, hoc⟩, hrd2, hg2⟩; obtain ⟨vf, vt, rfl, hof, hot, hlf, hltx⟩ := hoc; obtain ⟨Af, cf, rfl⟩ := (show ∃ A c, vf = .slice A fs.length c by obtain ⟨xs, h, _⟩ := hof; exact own_form h); obtain ⟨At, ct, rfl⟩ := (show ∃ A c, vt = .slice A ts.length c by obtain ⟨xs, h, _⟩ := hot; exact own_form h); have HRS2 := hid (grown_blk hg2 HRS.out (fun e => by injection e with e; omega)); have HK2 := hid (show Kp w w2 from Below.one HK1.out hg2 (Nat.le_succ _) HK1.out.le); have HOF := hid hof; have HOT := hid hot; have HLF := hid hlf; have HLT := hid hltx; have HSZ2 := hid hg2.size; obtain ⟨Ar, cr, hrb2, _⟩ := hrd2; have HRB2 := hid hrb2; clear hof hot hlf hltx hrb2 hg2)
          have HKC := hid (show Kp w2 (w2.alloc (.cells #[.slice Af fs.length cf, .slice At ts.length ct] 25)) from (Kp.refl _).alloc _)
          have HBC := hid (blk_new w2 (.cells #[.slice Af fs.length cf, .slice At ts.length ct] 25))
          have HOC : Hid (OCode (w2.alloc (.cells #[.slice Af fs.length cf, .slice At ts.length ct] 25)) W1.heap.size (.agg #[.slice Af fs.length cf, .slice At ts.length ct]) ⟨fs, ts⟩) := hid (OCode.kp ⟨_, _, rfl, HOF.out, HOT.out, HLF.out, HLT.out⟩ HKC.out)
          generalize (w2.alloc (.cells #[.slice Af fs.length cf, .slice At ts.length ct] 25)) = W3 at HKC HBC HOC ⊢
          generalize w2.heap.size = cb at HBC ⊢
          have HRS3 := hid ((HKC.out.block _ (blk_lt HRS2.out)).trans HRS2.out)
          have HRB3 := hid ((HKC.out.block _ (blk_lt HRB2.out)).trans HRB2.out)
          have HK3 := hid (HK2.out.trans HKC.out)
          have r0 := blk_cell (o := 0) (v := Value.slice Ar rbs.length cr) HRB3.out rfl
          have r1 := blk_cell (o := 1) (v := Value.bool bad) HRB3.out rfl
          have rl := blk_lt HRB3.out
          have q0 := blk_cell (o := 0) (v := Value.slice none 0 0) HRS3.out rfl
          have q1 := blk_cell (o := 1) (v := Value.slice none 0 0) HRS3.out rfl
          have qf0 := blk_free (o := 0) HRS3.out
          have qf1 := blk_free (o := 1) HRS3.out
          have ql := blk_lt HRS3.out
          by_cases hbb : bad = true ∨ 0 < rbs.length
          · have HU := hid (HUR.out.1 hbb)
            have hbc : bad = true ∨ (bad = false ∧ 0 < rbs.length) := by
              cases bad
              · rcases hbb with h | h
                · cases h
                · exact .inr ⟨rfl, h⟩
              · exact .inl rfl
            clear hbb
            rcases hbc with rfl | ⟨rfl, h0⟩
            · go_wp2
              have b0 : BoxAt W3 w.heap.size 0 := BoxAt.mk_ (blk_cell (o := 0) (v := Value.slice none 0 0) HRS3.out rfl) (blk_free HRS3.out)
              have b1 : BoxAt W3 w.heap.size 1 := BoxAt.mk_ (blk_cell (o := 1) (v := Value.slice none 0 0) HRS3.out rfl) (blk_free HRS3.out)
              obtain ⟨z0, z1⟩ := set2_cells b0 b1 (.slice none 0 0) (.slice none 0 0)
              refine bodyPost_ret (v := .tuple #[.agg #[.slice none 0 0, .slice none 0 0], .int .i64 6]) (by simp [results, Try.results12, go_sem, z0, z1]) rfl ?_
              rw [HU.out]
              exact ⟨⟨_, rfl, OCode.zero _ _⟩, (HK3.out.setCell (p := ⟨w.heap.size, 0, none⟩) (Nat.le_refl _) _).setCell (p := ⟨w.heap.size, 1, none⟩) (Nat.le_refl _) _⟩
            · have i0 : (0 : Int) < (rbs.length : Int) := by omega
              clear h0
              go_wp2
              have b0 : BoxAt W3 w.heap.size 0 := BoxAt.mk_ (blk_cell (o := 0) (v := Value.slice none 0 0) HRS3.out rfl) (blk_free HRS3.out)
              have b1 : BoxAt W3 w.heap.size 1 := BoxAt.mk_ (blk_cell (o := 1) (v := Value.slice none 0 0) HRS3.out rfl) (blk_free HRS3.out)
              obtain ⟨z0, z1⟩ := set2_cells b0 b1 (.slice none 0 0) (.slice none 0 0)
              refine bodyPost_ret (v := .tuple #[.agg #[.slice none 0 0, .slice none 0 0], .int .i64 6]) (by simp [results, Try.results12, go_sem, z0, z1]) rfl ?_
              rw [HU.out]
              exact ⟨⟨_, rfl, OCode.zero _ _⟩, (HK3.out.setCell (p := ⟨w.heap.size, 0, none⟩) (Nat.le_refl _) _).setCell (p := ⟨w.heap.size, 1, none⟩) (Nat.le_refl _) _⟩
          · have hb0 : bad = false ∧ rbs.length = 0 := by
              cases bad
              · exact ⟨rfl, by omega⟩
              · exact absurd (.inl rfl) hbb
            obtain ⟨rfl, hl0⟩ := hb0
            have i0 : ¬ (0 : Int) < (rbs.length : Int) := by omega
            have HNB := hid hbb
            clear hbb hl0
            have e0 := blk_cell (o := 0) (v := Value.slice Af fs.length cf) HBC.out rfl
            have e1 := blk_cell (o := 1) (v := Value.slice At ts.length ct) HBC.out rfl
            have el := blk_lt HBC.out
            by_cases hs : (soundM ⟨fs, ts⟩).1 = 0
            · have HU := hid (HUR.out.2.2 HNB.out hs)
              have HS := hid hs
              clear hs
              go_wp2_with (go_at_call 18; go_must (refine (sound_any _ _ ⟨fs, ts⟩ HOC.out.rd).mono ?_); rintro e w4 ⟨rfl, hk4⟩; unfold fixV; rw [HS.out]; have HK4 := hid hk4; have k0 := cell_kp hk4 rl r0; have hk4q0 := cell_kp hk4 ql q0; have hk4q1 := cell_kp hk4 ql q1; have k2 := cell_kp hk4 el e0; have k3 := cell_kp hk4 el e1; have hk4l := Nat.lt_of_lt_of_le el hk4.le; have hk4ql := Nat.lt_of_lt_of_le ql hk4.le; have hk4f0 := (hk4.cells.2 _ 0 ql).trans qf0; have hk4f1 := (hk4.cells.2 _ 1 ql).trans qf1; clear hk4)
              have HRS5 := hid ((HK4.out.block _ (blk_lt HRS3.out)).trans HRS3.out)
              have b0 : BoxAt w4 w.heap.size 0 := BoxAt.mk_ (blk_cell (o := 0) (v := Value.slice none 0 0) HRS5.out rfl) (blk_free HRS5.out)
              have b1 : BoxAt w4 w.heap.size 1 := BoxAt.mk_ (blk_cell (o := 1) (v := Value.slice none 0 0) HRS5.out rfl) (blk_free HRS5.out)
              obtain ⟨z0, z1⟩ := set2_cells b0 b1 (.slice Af fs.length cf) (.slice At ts.length ct)
              refine bodyPost_ret (v := .tuple #[.agg #[.slice Af fs.length cf, .slice At ts.length ct], .int .i64 0]) (by simp [results, Try.results12, go_sem, z0, z1, hk4ql]) rfl ?_
              rw [HU.out]
              have ho5 := HOC.out.kp HK4.out
              have t1 := rowTouch (o := 0) HRS5.out (.slice Af fs.length cf)
              have t2 := rowTouch (o := 1) (blk_set (o := 0) HRS5.out (.slice Af fs.length cf)) (.slice At ts.length ct)
              exact ⟨⟨_, rfl, (ho5.touch (t1.trans t2) (by have := HW1.out; omega)).kp ((Kp.refl _).alloc _)⟩, (((HK3.out.trans HK4.out).setCell (p := ⟨w.heap.size, 0, none⟩) (Nat.le_refl _) _).setCell (p := ⟨w.heap.size, 1, none⟩) (Nat.le_refl _) _).alloc _⟩
            · have HU := hid (HUR.out.2.1 HNB.out hs)
              have z9 : ((soundM ⟨fs, ts⟩).1 != 0) = true := by simpa using hs
              clear hs
              go_wp2_with (go_at_call 18; go_must (refine (sound_any _ _ ⟨fs, ts⟩ HOC.out.rd).mono ?_); rintro e w4 ⟨rfl, hk4⟩; unfold fixV; have HK4 := hid hk4; have hk4q0 := cell_kp hk4 ql q0; have hk4q1 := cell_kp hk4 ql q1; have hk4ql := Nat.lt_of_lt_of_le ql hk4.le; have hk4f0 := (hk4.cells.2 _ 0 ql).trans qf0; have hk4f1 := (hk4.cells.2 _ 1 ql).trans qf1; clear hk4)
              have HRS5 := hid ((HK4.out.block _ (blk_lt HRS3.out)).trans HRS3.out)
              have HK5 := hid (HK3.out.trans HK4.out)
              have b0 : BoxAt w4 w.heap.size 0 := BoxAt.mk_ (blk_cell (o := 0) (v := Value.slice none 0 0) HRS5.out rfl) (blk_free HRS5.out)
              have b1 : BoxAt w4 w.heap.size 1 := BoxAt.mk_ (blk_cell (o := 1) (v := Value.slice none 0 0) HRS5.out rfl) (blk_free HRS5.out)
              obtain ⟨z0, z1⟩ := set2_cells b0 b1 (.slice none 0 0) (.slice none 0 0)
              refine bodyPost_ret (v := .tuple #[.agg #[.slice none 0 0, .slice none 0 0], .int .i64 6]) (by simp [results, Try.results12, go_sem, z0, z1, hk4ql]) rfl ?_
              rw [HU.out]
              exact ⟨⟨_, rfl, OCode.zero _ _⟩, ((HK5.out.setCell (p := ⟨w.heap.size, 0, none⟩) (Nat.le_refl _) _).setCell (p := ⟨w.heap.size, 1, none⟩) (Nat.le_refl _) _).alloc _⟩
        · have HU := hid (HUS.out hsum)
          have hne : ((sumM (bs.take n) : Int) != (beV (bs.drop n) : Int)) = true := by simp; omega
          generalize sumM (bs.take n) = X at hTS hne
          generalize beV (bs.drop n) = S at hne ⊢
          clear hsum
          go_wp2_with (go_at_call 28; go_must (refine hTS.mono ?_); rintro e w9 ⟨rfl, rfl⟩)
          refine bodyPost_ret (v := .tuple #[.agg #[.slice none 0 0, .slice none 0 0], .int .i64 18]) (by simp [results, Try.results12, go_sem]) rfl ?_
          rw [HU.out]
          exact ⟨⟨_, rfl, OCode.zero _ _⟩, HK0.out⟩
  · have HU := hid (un_head hh)
    have tne : (bs.take 5 == [114, 111, 97, 100, 49]) = false := by
      rw [beq_eq_false_iff_ne]; exact hh
    have tne2 : (bs.take 5 != [114, 111, 97, 100, 49]) = true := by rw [bne, tne]; rfl
    clear hh hn
    go_enter Try.func12, Try.ntmps12
    go_wp2
    refine bodyPost_ret (v := .tuple #[.agg #[.slice none 0 0, .slice none 0 0], .int .i64 6]) (by simp [results, Try.results12, go_sem]) rfl ?_
    rw [HU.out]
    exact ⟨⟨_, rfl, OCode.zero _ _⟩, HK0.out⟩
end Go.Proofs.Ytgonekmmbeedeaa
