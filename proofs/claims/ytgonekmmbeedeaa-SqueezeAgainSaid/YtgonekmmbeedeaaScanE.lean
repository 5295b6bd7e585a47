/-
  Package scan: text. Condition: a source of at most 8000 bytes.
-/
import Derived.Test.YtgonekmmbeedeaaScanD
namespace Go.Proofs.Ytgonekmmbeedeaa
open Go.RowKit
set_option linter.unusedVariables false
set_option linter.unusedSimpArgs false

theorem txt_end (r : Bs) : txtLen (34 :: r) = some 0 := by
  cases r with
  | nil => rfl
  | cons d r => rw [txtLen, if_pos rfl]
theorem txt_nl (r : Bs) : txtLen (10 :: r) = none := by
  cases r with
  | nil => rfl
  | cons d r => rw [txtLen, if_neg (by decide), if_pos rfl]
theorem txt_esc (S : ByteArray) (k : Nat) (hk : k < S.size) (h : S[k] = 92) : txtLen (restOf S k) = (txtLen (restOf S (k + 2))).map (· + 2) := by
  rw [rest_cons hk, h]
  by_cases h2 : k + 1 < S.size
  · rw [rest_cons h2, txtLen, if_neg (by decide), if_neg (by decide), if_pos rfl]
  · rw [rest_nil (by omega), rest_nil (by omega)]; rfl
theorem txt_up (S : ByteArray) (k : Nat) (hk : k < S.size) (b : UInt8) (hb : S[k] = b) (h1 : b ≠ 34) (h2 : b ≠ 10) (h3 : b ≠ 92) : txtLen (restOf S k) = (txtLen (restOf S (k + 1))).map (· + 1) := by
  rw [rest_cons hk, hb]
  by_cases h4 : k + 1 < S.size
  · rw [rest_cons h4, txtLen, if_neg h1, if_neg h2, if_neg h3]
  · rw [rest_nil (by omega)]; simp [txtLen, h1]
/-- A text's bytes from a on are read up to k. -/
def TxtI (S : ByteArray) (a k : Nat) : Prop := a ≤ k ∧ k ≤ S.size + 1 ∧ txtLen (restOf S a) = (txtLen (restOf S k)).map (· + (k - a))
theorem TxtI.start (S : ByteArray) (a : Nat) (h : a ≤ S.size + 1) : TxtI S a a := ⟨Nat.le_refl _, h, by cases txtLen (restOf S a) <;> simp⟩
theorem TxtI.step {S : ByteArray} {a k d : Nat} (h : TxtI S a k) (hd : txtLen (restOf S k) = (txtLen (restOf S (k + d))).map (· + d)) (hk : k + d ≤ S.size + 1) : TxtI S a (k + d) := by
  obtain ⟨h1, h2, h3⟩ := h
  refine ⟨by omega, hk, ?_⟩
  rw [h3, hd]
  cases txtLen (restOf S (k + d)) with
  | none => rfl
  | some j => simp; omega
theorem txt_round {S : ByteArray} {a k d : Nat} {v : Value} (h : TxtI S a (k + d)) (hd : 0 < d) (hv : v = .int .i64 ((k + d : Nat) : Int)) (hk : k < S.size) : (∃ k' : Nat, v = .int .i64 (k' : Int) ∧ TxtI S a k') ∧ S.size - (intOf v).toNat < S.size - (intOf (.int .i64 (k : Int))).toNat := by
  subst hv
  exact ⟨⟨k + d, rfl, h⟩, by simp only [intOf, Int.toNat_natCast]; omega⟩
def textM (S : ByteArray) (c : CutM) : Except Err CutM := match txtLen (restOf S (c.pos + 1)) with
  | none => .error (4, c.line, c.col)
  | some k => if okText ((restOf S (c.pos + 1)).take k) then putM c 3 (S.extract c.pos (c.pos + (k + 2))) (k + 2) else .error (4, c.line, c.col)
theorem unq_yes (s : ByteArray) (l : Bs) (w : World) (hs : s = ⟨(34 :: (l ++ [34])).toArray⟩) (hl : l.length ≤ 8000) (h : okText l = true) : Calls Try.prog 92 #[.string s] w fun e w' => (∃ o, e = .returned (.tuple #[.string o, .int .i64 0])) ∧ Kp w w' := by
  subst hs
  refine (unquote_mk l w (by omega)).mono ?_
  rintro e w' ⟨h1, h2⟩
  refine ⟨?_, h2⟩
  rcases h1 with ⟨o, _, _, h3⟩ | ⟨h3, h4⟩
  · exact ⟨_, h3⟩
  · unfold okText at h
    cases hu : unq l with
    | none => rw [hu] at h; cases h
    | some o =>
      rw [hu] at h
      have := h3 o hu
      simp at h; omega
theorem unq_no (s : ByteArray) (l : Bs) (w : World) (hs : s = ⟨(34 :: (l ++ [34])).toArray⟩) (hl : l.length ≤ 8000) (h : okText l = false) : Calls Try.prog 92 #[.string s] w fun e w' => (∃ o, e = .returned (.tuple #[.string o, .int .i64 4])) ∧ Kp w w' := by
  subst hs
  refine (unquote_mk l w (by omega)).mono ?_
  rintro e w' ⟨h1, h2⟩
  refine ⟨?_, h2⟩
  rcases h1 with ⟨o, h3, h4, _⟩ | ⟨h3, h4⟩
  · unfold okText at h
    rw [show unq l = some o from h3] at h
    simp at h; omega
  · exact ⟨_, h4⟩
theorem text_none {S : ByteArray} {c : CutM} (h : txtLen (restOf S (c.pos + 1)) = none) : textM S c = .error (4, c.line, c.col) := by unfold textM; rw [h]
theorem text_some {S : ByteArray} {c : CutM} {k : Nat} {s : ByteArray} (hk : k < S.size) (h : TxtI S (c.pos + 1) k) (h0 : restOf S c.pos = 34 :: restOf S (c.pos + 1)) (hb : S[k] = 34) (hs : S.extract c.pos (k + 1) = s) :
    ∃ l : Bs, s = ⟨(34 :: (l ++ [34])).toArray⟩ ∧ l.length ≤ S.size ∧ s.size ≤ S.size ∧ c.pos + s.size ≤ S.size ∧ textM S c = if okText l then putM c 3 s s.size else .error (4, c.line, c.col) := by
  obtain ⟨h1, h2, h3⟩ := h
  rw [rest_cons hk, hb, txt_end] at h3
  have hz := ext_size (S := S) (a := c.pos) (k := k + 1) (by omega) (by omega)
  have hsl : s.data.toList = (restOf S c.pos).take (k - c.pos + 1) := by
    rw [← hs, show k + 1 = c.pos + (k - c.pos + 1) by omega, ext_rest]
  have hr : restOf S (c.pos + 1) = (restOf S (c.pos + 1)).take (k - (c.pos + 1)) ++ 34 :: restOf S (k + 1) := by
    have e := List.take_append_drop (k - (c.pos + 1)) (restOf S (c.pos + 1))
    rw [rest_drop, show c.pos + 1 + (k - (c.pos + 1)) = k by omega, rest_cons hk, hb] at e
    exact e.symm
  have hll : ((restOf S (c.pos + 1)).take (k - (c.pos + 1))).length = k - (c.pos + 1) := by
    rw [List.length_take, rest_len]; omega
  refine ⟨(restOf S (c.pos + 1)).take (k - (c.pos + 1)), ?_, by rw [hll]; omega, by rw [← hs]; omega, by rw [← hs]; omega, ?_⟩
  · refine bytes_eq ?_
    rw [hsl, h0, show k - c.pos + 1 = (k - (c.pos + 1) + 1) + 1 by omega, List.take_succ_cons]
    congr 1
    conv => lhs; rw [hr]
    rw [List.take_append, hll, List.take_of_length_le (by rw [hll]; omega), show k - (c.pos + 1) + 1 - (k - (c.pos + 1)) = 1 by omega]
    rfl
  · unfold textM
    rw [h3]
    dsimp only [Option.map_some]
    rw [Nat.zero_add]
    have e1 : c.pos + (k - (c.pos + 1) + 2) = k + 1 := by omega
    have e2 : k - (c.pos + 1) + 2 = s.size := by rw [← hs]; omega
    rw [e1, hs, e2]
set_option maxRecDepth 20000 in
set_option maxHeartbeats 8000000 in
theorem ctext_any (w : World) (cb : Nat) (S : ByteArray) (c : CutM) (h : CutS w cb S c) (h0 : restOf S c.pos = 34 :: restOf S (c.pos + 1)) : Calls Try.prog 80 #[.pointer (some ⟨cb, 0, none⟩)] w (CutP w cb S (textM S c)) := by
  have HC := hid h
  obtain ⟨⟨ov, h⟩, bd⟩ := h
  have H := hid h; have BD := hid bd
  have c0 := h.c0; have c1 := h.c1
  have hlt := h.lt
  have H0 := hid h0
  have hpl : c.pos < S.size := by have := congrArg List.length h0; rw [rest_len, List.length_cons, rest_len] at this; omega
  obtain ⟨p1, hp1⟩ : ∃ p1, c.pos + 1 = p1 := ⟨_, rfl⟩
  have HP1 := hid hp1
  have HS0 := hid (TxtI.start S p1 (by omega))
  have HPL := hid hpl
  have w1 : IntKind.i64.wrap ((c.pos : Int) + 1) = (p1 : Int) := by rw [IntKind.wrap_i64]; have := bd.size; omega
  clear h bd h0 hp1 hpl
  go_enter Try.func80, Try.ntmps80
  go_wp2_with fail
  clear w1
  go_loop [2] (fun n => ∃ k : Nat, n = .int .i64 (k : Int) ∧ TxtI S p1 k) (fun n => S.size - (intOf n).toNat)
  case atStart => exact ⟨_, rfl, HS0.out⟩
  case round =>
    obtain ⟨k, rfl, hti⟩ := hrel
    have HTI := hid hti
    have hk9 := hti.2.1
    have hk1 := hti.1
    clear hti
    by_cases hk : k < S.size
    · obtain ⟨b, hb⟩ : ∃ b, S[k] = b := ⟨_, rfl⟩
      have HB := hid hb
      have i1 : (k : Int) < (S.size : Int) := by omega
      have b34 := byte_beq b 34 (by decide)
      have b10 := byte_beq b 10 (by decide)
      have b92 := byte_beq b 92 (by decide)
      by_cases e34 : b = 34
      · subst e34
        have i2 : ¬ (S.size : Int) ≤ (k : Int) := by omega
        have hti2 := HTI.out
        rw [← HP1.out] at hti2
        obtain ⟨s, hs⟩ : ∃ s, S.extract c.pos (k + 1) = s := ⟨_, rfl⟩
        obtain ⟨l, hsl, hll, hss, hsp, htm⟩ := text_some hk hti2 H0.out hb hs
        obtain ⟨k1, hk1'⟩ : ∃ k1, k + 1 = k1 := ⟨_, rfl⟩
        rw [hk1'] at hs
        have hp9 := HP1.out
        have j0 : IntKind.i64.wrap ((k : Int) + 1) = (k1 : Int) := by rw [IntKind.wrap_i64]; have := BD.out.size; omega
        have j1 : (0 : Int) ≤ (c.pos : Int) := by omega
        have j2 : (c.pos : Int) ≤ (k1 : Int) := by omega
        have j3 : (k1 : Int) ≤ (S.size : Int) := by omega
        have HSL := hid hsl
        have HLL := hid (show l.length ≤ 8000 by have := BD.out.size; omega)
        have HSS := hid (show s.size ≤ 140737488351232 ∧ c.pos + s.size ≤ S.size by have := BD.out.size; omega)
        clear hti2 hsl hll hss hsp hk1' hp9 b34 b10 b92
        cases ht : okText l with
        | true =>
          have HT := hid ht
          have HN2 := hid (htm.trans (if_pos ht))
          clear ht htm
          cases hq : putM c 3 s s.size with
          | ok c2 =>
            have HQ := hid hq
            clear hq
            go_wp2_with fail
            go_quiet (fail)
            go_wp2_with first | (go_at_call 92; go_must (refine (unq_yes s l _ HSL.out HLL.out HT.out).mono ?_); rintro e w1 ⟨⟨o, rfl⟩, hk1⟩; have HK1 := hid hk1; clear hk1) | (go_at_call 81; go_must (refine (put_any _ cb S c (HC.out.kp (((Kp.refl w).drewN _).trans HK1.out)) 3 (by unfold okI; omega) s HSS.out.1 s.size HSS.out.2).mono ?_); intro e w2 hp; obtain ⟨he, hc2, hb2⟩ := CutP.of_ok hp HQ.out; subst he; clear hp)
            first | go_end0 | refine bodyPost_ret (results_none rfl _ _ _) rfl ?_
            exact ⟨.inl ⟨_, HN2.out.trans HQ.out, rfl, hc2⟩, Below.trans (Below.mono (((Kp.refl w).drewN _).trans HK1.out) (Nat.le_of_lt HC.out.lt)) hb2⟩
          | error er =>
            have HQ := hid hq
            clear hq
            go_wp2_with fail
            go_quiet (fail)
            go_wp2_with first | (go_at_call 92; go_must (refine (unq_yes s l _ HSL.out HLL.out HT.out).mono ?_); rintro e w1 ⟨⟨o, rfl⟩, hk1⟩; have HK1 := hid hk1; clear hk1) | (go_at_call 81; go_must (refine (put_any _ cb S c (HC.out.kp (((Kp.refl w).drewN _).trans HK1.out)) 3 (by unfold okI; omega) s HSS.out.1 s.size HSS.out.2).mono ?_); intro e w2 hp; obtain ⟨he, hb2⟩ := CutP.of_err hp HQ.out; unfold stopE at he; subst he; clear hp)
            exact ⟨rfl, .inr ⟨_, HN2.out.trans HQ.out, rfl⟩, Below.trans (Below.mono (((Kp.refl w).drewN _).trans HK1.out) (Nat.le_of_lt HC.out.lt)) hb2⟩
        | false =>
          have HT := hid ht
          have HN2 := hid (htm.trans (if_neg (by rw [ht]; decide)))
          clear ht htm
          go_wp2_with fail
          go_quiet (fail)
          go_wp2_with first | (go_at_call 92; go_must (refine (unq_no s l _ HSL.out HLL.out HT.out).mono ?_); rintro e w1 ⟨⟨o, rfl⟩, hk1⟩; have HK1 := hid hk1; clear hk1) | (go_at_call 83; go_must (refine (fail_any _ cb S c (HC.out.kp (((Kp.refl w).drewN _).trans HK1.out)) 4).mono ?_); rintro e w2 ⟨he, hk2⟩; unfold stopE at he; subst he)
          exact ⟨rfl, .inr ⟨_, HN2.out, rfl⟩, Below.mono ((((Kp.refl w).drewN _).trans HK1.out).trans hk2) (Nat.le_of_lt HC.out.lt)⟩
      · have n34 : ((b.toNat : Int) == 34) = false := b34.trans (beq_eq_false_iff_ne.2 e34)
        have m34 : ((b.toNat : Int) != 34) = true := by rw [bne, n34]; rfl
        by_cases e10 : b = 10
        · subst e10
          have i2 : ¬ (S.size : Int) ≤ (k : Int) := by omega
          have HN2 := hid (text_none (S := S) (c := c) (by rw [HP1.out, HTI.out.2.2, rest_cons hk, hb, txt_nl]; rfl))
          clear b34 b10 b92 n34 m34 e34
          go_wp2_with (go_at_call 83; go_must (refine (fail_any _ cb S c HC.out 4).mono ?_); rintro e w2 ⟨he, hk2⟩; unfold stopE at he; subst he)
          exact ⟨rfl, .inr ⟨_, HN2.out, rfl⟩, Below.mono hk2 (Nat.le_of_lt HC.out.lt)⟩
        · have n10 : ((b.toNat : Int) == 10) = false := b10.trans (beq_eq_false_iff_ne.2 e10)
          have m10 : ((b.toNat : Int) != 10) = true := by rw [bne, n10]; rfl
          by_cases e92 : b = 92
          · have HS2 := hid (HTI.out.step (txt_esc S k hk (by rw [hb, e92])) (by omega))
            have n92 : ((b.toNat : Int) == 92) = true := b92.trans (by rw [e92]; rfl)
            obtain ⟨k1, hk1'⟩ : ∃ k1, k + 1 = k1 := ⟨_, rfl⟩
            obtain ⟨k2, hk2'⟩ : ∃ k2, k + 2 = k2 := ⟨_, rfl⟩
            have j0 : IntKind.i64.wrap ((k : Int) + 1) = (k1 : Int) := by rw [IntKind.wrap_i64]; have := BD.out.size; omega
            have j1 : IntKind.i64.wrap ((k1 : Int) + 1) = (k2 : Int) := by rw [IntKind.wrap_i64]; have := BD.out.size; omega
            have HK2 := hid hk2'
            clear b34 b10 b92 e34 e10 e92 hk1' hk2'
            go_wp2
            exact txt_round (d := 2) HS2.out (by decide) (by rw [HK2.out]) hk
          · have HS2 := hid (HTI.out.step (txt_up S k hk b hb e34 e10 e92) (by omega))
            have n92 : ((b.toNat : Int) == 92) = false := b92.trans (beq_eq_false_iff_ne.2 e92)
            obtain ⟨k1, hk1'⟩ : ∃ k1, k + 1 = k1 := ⟨_, rfl⟩
            have j0 : IntKind.i64.wrap ((k : Int) + 1) = (k1 : Int) := by rw [IntKind.wrap_i64]; have := BD.out.size; omega
            have HK2 := hid hk1'
            clear b34 b10 b92 e34 e10 e92 hk1'
            go_wp2
            exact txt_round (d := 1) HS2.out (by decide) (by rw [HK2.out]) hk
    · have i1 : ¬ (k : Int) < (S.size : Int) := by omega
      have i2 : (S.size : Int) ≤ (k : Int) := by omega
      have HN2 := hid (text_none (S := S) (c := c) (by rw [HP1.out, HTI.out.2.2, rest_nil (by omega)]; rfl))
      clear hk9 hk1
      go_wp2_with (go_at_call 83; go_must (refine (fail_any _ cb S c HC.out 4).mono ?_); rintro e w2 ⟨he, hk2⟩; unfold stopE at he; subst he)
      exact ⟨rfl, .inr ⟨_, HN2.out, rfl⟩, Below.mono hk2 (Nat.le_of_lt HC.out.lt)⟩
end Go.Proofs.Ytgonekmmbeedeaa
