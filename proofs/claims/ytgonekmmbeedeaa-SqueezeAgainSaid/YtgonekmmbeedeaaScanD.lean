/-
  Package scan: lineEnd, name, number, text. Condition: a source of at most 8000 bytes.
-/
import Derived.Test.YtgonekmmbeedeaaScanC
import Derived.Test.YtgonekmmbeedeaaUnquoteP
import Derived.Test.YtgonekmmbeedeaaRead
namespace Go.Proofs.Ytgonekmmbeedeaa
open Go.RowKit
set_option linter.unusedVariables false
set_option linter.unusedSimpArgs false

theorem CutP.of_ok {w w' : World} {cb : Nat} {S : ByteArray} {r : Except Err CutM} {c : CutM} {e : Ending} (h : CutP w cb S r e w') (hr : r = .ok c) : e = .returned (.tuple #[]) ∧ CutS w' cb S c ∧ Below cb w w' := by
  obtain ⟨h1 | h1, h2⟩ := h
  · obtain ⟨c', h3, h4, h5⟩ := h1
    rw [hr] at h3; injection h3 with h3; subst h3
    exact ⟨h4, h5, h2⟩
  · obtain ⟨er, h3, _⟩ := h1
    rw [hr] at h3; cases h3
theorem CutP.of_err {w w' : World} {cb : Nat} {S : ByteArray} {r : Except Err CutM} {er : Err} {e : Ending} (h : CutP w cb S r e w') (hr : r = .error er) : e = stopE er ∧ Below cb w w' := by
  obtain ⟨h1 | h1, h2⟩ := h
  · obtain ⟨c', h3, _⟩ := h1
    rw [hr] at h3; cases h3
  · obtain ⟨er', h3, h4⟩ := h1
    rw [hr] at h3; injection h3 with h3; subst h3
    exact ⟨h4, h2⟩
theorem CutP.later {w w1 w' : World} {cb : Nat} {S : ByteArray} {r : Except Err CutM} {e : Ending} (h : CutP w1 cb S r e w') (hb : Below cb w w1) : CutP w cb S r e w' := ⟨h.1, Below.trans hb h.2⟩
theorem CutS.kp {w w' : World} {cb : Nat} {S : ByteArray} {c : CutM} (h : CutS w cb S c) (hk : Kp w w') : CutS w' cb S c := by
  obtain ⟨⟨ov, h1⟩, h2⟩ := h
  exact ⟨⟨ov, h1.kp hk⟩, h2⟩
theorem CutS.lt {w : World} {cb : Nat} {S : ByteArray} {c : CutM} (h : CutS w cb S c) : cb < w.heap.size := by
  obtain ⟨⟨ov, h1⟩, h2⟩ := h
  exact h1.lt
theorem semi_v : (⟨#[59]⟩ : ByteArray) = semiB := rfl
set_option maxRecDepth 20000 in
set_option maxHeartbeats 4000000 in
theorem lineEnd_any (w : World) (cb : Nat) (S : ByteArray) (c : CutM) (h : CutS w cb S c) : Calls Try.prog 63 #[.pointer (some ⟨cb, 0, none⟩)] w (CutP w cb S (lineEndM c)) := by
  have HC := hid h
  obtain ⟨⟨ov, h⟩, bd⟩ := h
  have H := hid h
  obtain ⟨A, cap, rfl⟩ := h.len
  have c4 := h.c4
  have hlt := h.lt
  have HR := hid (OwnL.rd h.out)
  rcases List.eq_nil_or_concat c.out with ho | ⟨l, t, ho⟩
  · have HE := hid (show lineEndM c = .ok c by unfold lineEndM; rw [ho]; rfl)
    rw [ho] at c4
    clear h bd
    go_enter Try.func63, Try.ntmps63
    go_wp2
    first | go_end0 | refine bodyPost_ret (results_none rfl _ _ _) rfl ?_
    exact ⟨.inl ⟨_, HE.out, rfl, HC.out⟩, Below.refl _ _⟩
  · rw [List.concat_eq_append] at ho
    have hlen : c.out.length = l.length + 1 := by rw [ho]; simp
    have hlast : c.out.getLast? = some t := by rw [ho]; simp
    have hi : c.out[l.length]? = some t := by rw [ho]; simp
    obtain ⟨b, off, rfl, hb, g0, g1, g2, g3, ok0, ok1, ok2, ok3⟩ := at_token HR.out hi
    obtain ⟨n, hn⟩ : ∃ n, c.out.length = n := ⟨_, rfl⟩
    obtain ⟨m, hm⟩ : ∃ m, l.length = m := ⟨_, rfl⟩
    have hbn := bd.out
    rw [hn] at hlen c4 hbn
    rw [hm] at hlen g0 g1 g2 g3
    have i1 : (0 : Int) < (n : Int) := by omega
    have i2 : IntKind.i64.wrap ((n : Int) - 1) = (m : Int) := by rw [IntKind.wrap_i64]; omega
    have i3 : (m : Int) < (n : Int) := by omega
    have HP := hid bd.pos
    obtain ⟨x, hx⟩ : ∃ x, endsT t.kind t.text = x := ⟨_, rfl⟩
    have HX := hid hx
    have HLE := hid (show lineEndM c = if x then putM c 6 semiB 0 else .ok c by unfold lineEndM; rw [hlast, ← hx])
    clear h bd ho hlen hlast hi hn hm hbn ok0 ok1 ok2 ok3 hx
    cases x
    · go_enter Try.func63, Try.ntmps63
      go_wp2_with (go_at_call 84; go_must (refine (ends_any t _).mono ?_); rintro e w1 ⟨rfl, hk1⟩; rw [HX.out])
      first | go_end0 | refine bodyPost_ret (results_none rfl _ _ _) rfl ?_
      exact ⟨.inl ⟨_, HLE.out, rfl, HC.out.kp hk1⟩, Below.mono hk1 (Nat.le_of_lt HC.out.lt)⟩
    · cases hq : putM c 6 semiB 0 with
      | ok c2 =>
        have HQ := hid hq
        clear hq
        go_enter Try.func63, Try.ntmps63
        go_wp2_with first | (go_at_call 84; go_must (refine (ends_any t _).mono ?_); rintro e w1 ⟨rfl, hk1⟩; rw [HX.out]; have HK1 := hid hk1; clear hk1) | (go_at_call 81; go_must (refine (put_any _ cb S c (HC.out.kp HK1.out) 6 (by unfold okI; omega) ⟨#[59]⟩ (by decide) 0 (by have := HP.out; omega)).mono ?_); intro e w2 hp; obtain ⟨he, hc2, hb2⟩ := CutP.of_ok hp HQ.out; subst he; clear hp)
        first | go_end0 | refine bodyPost_ret (results_none rfl _ _ _) rfl ?_
        exact ⟨.inl ⟨_, HLE.out.trans HQ.out, rfl, hc2⟩, Below.trans (Below.mono HK1.out (Nat.le_of_lt HC.out.lt)) hb2⟩
      | error er =>
        have HQ := hid hq
        clear hq
        go_enter Try.func63, Try.ntmps63
        go_wp2_with first | (go_at_call 84; go_must (refine (ends_any t _).mono ?_); rintro e w1 ⟨rfl, hk1⟩; rw [HX.out]; have HK1 := hid hk1; clear hk1) | (go_at_call 81; go_must (refine (put_any _ cb S c (HC.out.kp HK1.out) 6 (by unfold okI; omega) ⟨#[59]⟩ (by decide) 0 (by have := HP.out; omega)).mono ?_); intro e w2 hp; obtain ⟨he, hb2⟩ := CutP.of_err hp HQ.out; unfold stopE at he; subst he; clear hp)
        exact ⟨rfl, .inr ⟨_, HLE.out.trans HQ.out, rfl⟩, Below.trans (Below.mono HK1.out (Nat.le_of_lt HC.out.lt)) hb2⟩
/-! ### name, number -/
theorem span_cons {p : UInt8 → Bool} {b : UInt8} {r : Bs} (h : p b = true) : span_ p (b :: r) = span_ p r + 1 := by rw [span_, if_pos h]
theorem span_stop {p : UInt8 → Bool} {b : UInt8} {r : Bs} (h : p b = false) : span_ p (b :: r) = 0 := by rw [span_, if_neg (by rw [h]; decide)]
/-- The bytes of a kind from a on are read up to k. -/
def SpanI (p : UInt8 → Bool) (S : ByteArray) (a k : Nat) : Prop := a ≤ k ∧ k ≤ S.size ∧ span_ p (restOf S a) = (k - a) + span_ p (restOf S k)
theorem SpanI.up {p : UInt8 → Bool} {S : ByteArray} {a k : Nat} {b : UInt8} (h : SpanI p S a k) (hk : k < S.size) (hb : S[k] = b) (hp : p b = true) : SpanI p S a (k + 1) := by
  obtain ⟨h1, h2, h3⟩ := h
  refine ⟨by omega, by omega, ?_⟩
  rw [rest_cons hk, hb, span_cons hp] at h3
  omega
theorem SpanI.fin {p : UInt8 → Bool} {S : ByteArray} {a k : Nat} (h : SpanI p S a k) (hs : S.size ≤ k ∨ ∃ hk : k < S.size, p S[k] = false) : a + span_ p (restOf S a) = k := by
  obtain ⟨h1, h2, h3⟩ := h
  have : span_ p (restOf S k) = 0 := by
    rcases hs with hs | ⟨hk, hs⟩
    · rw [rest_nil hs]; rfl
    · rw [rest_cons hk, span_stop hs]
  omega
theorem ext_rest (S : ByteArray) (a n : Nat) : (S.extract a (a + n)).data.toList = (restOf S a).take n := by
  unfold restOf
  rw [ByteArray.data_extract, Array.toList_extract, List.extract_eq_take_drop, Nat.add_sub_cancel_left]
theorem ext_size {S : ByteArray} {a k : Nat} (h1 : a ≤ k) (h2 : k ≤ S.size) : (S.extract a k).size = k - a := by rw [ByteArray.size_extract]; omega
def nameM (S : ByteArray) (c : CutM) : Except Err CutM :=
  if 16 < span_ wordB (restOf S c.pos) then .error (7, c.line, c.col) else putM c (if isWord ((restOf S c.pos).take (span_ wordB (restOf S c.pos))) then 5 else 1) (S.extract c.pos (c.pos + span_ wordB (restOf S c.pos))) (span_ wordB (restOf S c.pos))
theorem word_yes1 {b : UInt8} (h : letterB b = true) : wordB b = true := by unfold wordB; rw [h]; rfl
theorem word_yes2 {b : UInt8} (h : digitB b = true) : wordB b = true := by unfold wordB; rw [h, Bool.or_true]
theorem word_no {b : UInt8} (h : letterB b = false) (h2 : digitB b = false) : wordB b = false := by unfold wordB; rw [h, h2]; rfl
theorem span_up {p : UInt8 → Bool} {S : ByteArray} {a k : Nat} (h : SpanI p S a (k + 1)) (hw : wrap64 ((k : Int) + 1) = ((k + 1 : Nat) : Int)) (hk : k < S.size) : (∃ k' : Nat, Value.int .i64 (wrap64 ((k : Int) + 1)) = .int .i64 (k' : Int) ∧ SpanI p S a k') ∧ S.size - (intOf (.int .i64 (wrap64 ((k : Int) + 1)))).toNat < S.size - (intOf (.int .i64 (k : Int))).toNat := by
  rw [hw]
  exact ⟨⟨k + 1, rfl, h⟩, by simp only [intOf, Int.toNat_natCast]; omega⟩
theorem wrap_up {n : Nat} (h : n < 9000000000000000000) : wrap64 ((n : Int) + 1) = ((n + 1 : Nat) : Int) := by unfold wrap64; omega
theorem name_at {S : ByteArray} {c : CutM} {k : Nat} {s : ByteArray} (h : SpanI wordB S c.pos k) (hf : S.size ≤ k ∨ ∃ hk : k < S.size, wordB S[k] = false) (hs : S.extract c.pos k = s) : nameM S c = (if 16 < s.size then .error (7, c.line, c.col) else putM c (if isWord s.data.toList then 5 else 1) s s.size) ∧ s.size = k - c.pos := by
  have hfin := h.fin hf
  obtain ⟨h1, h2, _⟩ := h
  have hz := ext_size h1 h2
  rw [hs] at hz
  refine ⟨?_, hz⟩
  unfold nameM
  rw [← ext_rest, hfin, hs, show span_ wordB (restOf S c.pos) = s.size by omega]
set_option maxRecDepth 20000 in
set_option maxHeartbeats 4000000 in
theorem name_any (w : World) (cb : Nat) (S : ByteArray) (c : CutM) (h : CutS w cb S c) : Calls Try.prog 77 #[.pointer (some ⟨cb, 0, none⟩)] w (CutP w cb S (nameM S c)) := by
  have HC := hid h
  obtain ⟨⟨ov, h⟩, bd⟩ := h
  have H := hid h; have BD := hid bd
  have c0 := h.c0; have c1 := h.c1
  have hlt := h.lt
  have HS0 := hid (show SpanI wordB S c.pos c.pos from ⟨Nat.le_refl _, bd.pos, by omega⟩)
  clear h bd
  go_enter Try.func77, Try.ntmps77
  go_wp2_with fail
  go_loop [2] (fun n => ∃ k : Nat, n = .int .i64 (k : Int) ∧ SpanI wordB S c.pos k) (fun n => S.size - (intOf n).toNat)
  case atStart => exact ⟨_, rfl, HS0.out⟩
  case round =>
    obtain ⟨k, rfl, hsp⟩ := hrel
    have HSP := hid hsp
    by_cases hk : k < S.size
    · obtain ⟨b, hb⟩ : ∃ b, S[k] = b := ⟨_, rfl⟩
      have HB := hid hb
      have i1 : (k : Int) < (S.size : Int) := by omega
      have HW := hid (wrap_up (n := k) (by have := BD.out.size; omega))
      clear hsp
      cases hl : letterB b with
      | true =>
        have HL := hid hl
        clear hl
        go_wp2_with (go_at_call 76; go_must (refine (letter_any b _).mono ?_); rintro e w1 ⟨rfl, rfl⟩; rw [HL.out])
        exact span_up (HSP.out.up hk HB.out (word_yes1 HL.out)) HW.out hk
      | false =>
        have HL := hid hl
        clear hl
        cases hd : digitB b with
        | true =>
          have HD := hid hd
          clear hd
          go_wp2_with first | (go_at_call 76; go_must (refine (letter_any b _).mono ?_); rintro e w1 ⟨rfl, rfl⟩; rw [HL.out]) | (go_at_call 78; go_must (refine (digit_any b _).mono ?_); rintro e w1 ⟨rfl, rfl⟩; rw [HD.out])
          exact span_up (HSP.out.up hk HB.out (word_yes2 HD.out)) HW.out hk
        | false =>
          have HD := hid hd
          clear hd
          have hsp := HSP.out
          obtain ⟨s, hs⟩ : ∃ s, S.extract c.pos k = s := ⟨_, rfl⟩
          obtain ⟨hnm, hsz⟩ := name_at hsp (.inr ⟨hk, by rw [HB.out]; exact word_no HL.out HD.out⟩) hs
          obtain ⟨hsp1, hsp2, _⟩ := hsp
          have HNM := hid hnm
          have HSS := hid (show s.size ≤ 140737488351232 ∧ c.pos + s.size ≤ S.size by have := BD.out.size; omega)
          have j1 : (0 : Int) ≤ (c.pos : Int) := by omega
          have j2 : (c.pos : Int) ≤ (k : Int) := by omega
          have j3 : (k : Int) ≤ (S.size : Int) := by omega
          clear hnm hsz hsp1 hsp2
          by_cases h16 : 16 < s.size
          · have j4 : (16 : Int) < (s.size : Int) := by omega
            have HN2 := hid (HNM.out.trans (if_pos h16))
            clear h16
            go_wp2_with first | (go_at_call 76; go_must (refine (letter_any b _).mono ?_); rintro e w1 ⟨rfl, rfl⟩; rw [HL.out]) | (go_at_call 78; go_must (refine (digit_any b _).mono ?_); rintro e w1 ⟨rfl, rfl⟩; rw [HD.out])
            go_quiet (fail)
            go_wp2_with (go_at_call 83; go_must (refine (fail_any _ cb S c (HC.out.kp ((Kp.refl w).drewN _)) 7).mono ?_); rintro e w1 ⟨he, hk1⟩; unfold stopE at he; subst he)
            exact ⟨rfl, .inr ⟨_, HN2.out, rfl⟩, Below.mono (((Kp.refl w).drewN _).trans hk1) (Nat.le_of_lt HC.out.lt)⟩
          · have j4 : ¬ (16 : Int) < (s.size : Int) := by omega
            have HN2 := hid (HNM.out.trans (if_neg h16))
            clear h16
            obtain ⟨x, hx⟩ : ∃ x, isWord s.data.toList = x := ⟨_, rfl⟩
            rw [hx] at HN2
            have HX := hid hx
            clear hx
            cases x
            · cases hq : putM c 1 s s.size with
              | ok c2 =>
                have HQ := hid hq
                clear hq
                go_wp2_with first | (go_at_call 76; go_must (refine (letter_any b _).mono ?_); rintro e w1 ⟨rfl, rfl⟩; rw [HL.out]) | (go_at_call 78; go_must (refine (digit_any b _).mono ?_); rintro e w1 ⟨rfl, rfl⟩; rw [HD.out])
                go_quiet (fail)
                go_wp2_with first | (go_at_call 90; go_must (refine (word_word s _).mono ?_); rintro e w1 ⟨rfl, rfl⟩; rw [HX.out]) | (go_at_call 81; go_must (refine (put_any _ cb S c (HC.out.kp ((Kp.refl w).drewN _)) 1 (by unfold okI; omega) s HSS.out.1 s.size HSS.out.2).mono ?_); intro e w2 hp; obtain ⟨he, hc2, hb2⟩ := CutP.of_ok hp HQ.out; subst he; clear hp)
                first | go_end0 | refine bodyPost_ret (results_none rfl _ _ _) rfl ?_
                exact ⟨.inl ⟨_, HN2.out.trans HQ.out, rfl, hc2⟩, Below.trans (Below.mono ((Kp.refl w).drewN _) (Nat.le_of_lt HC.out.lt)) hb2⟩
              | error er =>
                have HQ := hid hq
                clear hq
                go_wp2_with first | (go_at_call 76; go_must (refine (letter_any b _).mono ?_); rintro e w1 ⟨rfl, rfl⟩; rw [HL.out]) | (go_at_call 78; go_must (refine (digit_any b _).mono ?_); rintro e w1 ⟨rfl, rfl⟩; rw [HD.out])
                go_quiet (fail)
                go_wp2_with first | (go_at_call 90; go_must (refine (word_word s _).mono ?_); rintro e w1 ⟨rfl, rfl⟩; rw [HX.out]) | (go_at_call 81; go_must (refine (put_any _ cb S c (HC.out.kp ((Kp.refl w).drewN _)) 1 (by unfold okI; omega) s HSS.out.1 s.size HSS.out.2).mono ?_); intro e w2 hp; obtain ⟨he, hb2⟩ := CutP.of_err hp HQ.out; unfold stopE at he; subst he; clear hp)
                exact ⟨rfl, .inr ⟨_, HN2.out.trans HQ.out, rfl⟩, Below.trans (Below.mono ((Kp.refl w).drewN _) (Nat.le_of_lt HC.out.lt)) hb2⟩
            · cases hq : putM c 5 s s.size with
              | ok c2 =>
                have HQ := hid hq
                clear hq
                go_wp2_with first | (go_at_call 76; go_must (refine (letter_any b _).mono ?_); rintro e w1 ⟨rfl, rfl⟩; rw [HL.out]) | (go_at_call 78; go_must (refine (digit_any b _).mono ?_); rintro e w1 ⟨rfl, rfl⟩; rw [HD.out])
                go_quiet (fail)
                go_wp2_with first | (go_at_call 90; go_must (refine (word_word s _).mono ?_); rintro e w1 ⟨rfl, rfl⟩; rw [HX.out]) | (go_at_call 81; go_must (refine (put_any _ cb S c (HC.out.kp ((Kp.refl w).drewN _)) 5 (by unfold okI; omega) s HSS.out.1 s.size HSS.out.2).mono ?_); intro e w2 hp; obtain ⟨he, hc2, hb2⟩ := CutP.of_ok hp HQ.out; subst he; clear hp)
                first | go_end0 | refine bodyPost_ret (results_none rfl _ _ _) rfl ?_
                exact ⟨.inl ⟨_, HN2.out.trans HQ.out, rfl, hc2⟩, Below.trans (Below.mono ((Kp.refl w).drewN _) (Nat.le_of_lt HC.out.lt)) hb2⟩
              | error er =>
                have HQ := hid hq
                clear hq
                go_wp2_with first | (go_at_call 76; go_must (refine (letter_any b _).mono ?_); rintro e w1 ⟨rfl, rfl⟩; rw [HL.out]) | (go_at_call 78; go_must (refine (digit_any b _).mono ?_); rintro e w1 ⟨rfl, rfl⟩; rw [HD.out])
                go_quiet (fail)
                go_wp2_with first | (go_at_call 90; go_must (refine (word_word s _).mono ?_); rintro e w1 ⟨rfl, rfl⟩; rw [HX.out]) | (go_at_call 81; go_must (refine (put_any _ cb S c (HC.out.kp ((Kp.refl w).drewN _)) 5 (by unfold okI; omega) s HSS.out.1 s.size HSS.out.2).mono ?_); intro e w2 hp; obtain ⟨he, hb2⟩ := CutP.of_err hp HQ.out; unfold stopE at he; subst he; clear hp)
                exact ⟨rfl, .inr ⟨_, HN2.out.trans HQ.out, rfl⟩, Below.trans (Below.mono ((Kp.refl w).drewN _) (Nat.le_of_lt HC.out.lt)) hb2⟩
    · have i1 : ¬ (k : Int) < (S.size : Int) := by omega
      obtain ⟨s, hs⟩ : ∃ s, S.extract c.pos k = s := ⟨_, rfl⟩
      obtain ⟨hnm, hsz⟩ := name_at hsp (.inl (Nat.le_of_not_lt hk)) hs
      obtain ⟨hsp1, hsp2, _⟩ := hsp
      have HNM := hid hnm
      have HSS := hid (show s.size ≤ 140737488351232 ∧ c.pos + s.size ≤ S.size by have := BD.out.size; omega)
      have j1 : (0 : Int) ≤ (c.pos : Int) := by omega
      have j2 : (c.pos : Int) ≤ (k : Int) := by omega
      have j3 : (k : Int) ≤ (S.size : Int) := by omega
      clear hnm hsz hsp1 hsp2
      by_cases h16 : 16 < s.size
      · have j4 : (16 : Int) < (s.size : Int) := by omega
        have HN2 := hid (HNM.out.trans (if_pos h16))
        clear h16
        go_wp2_with fail
        go_quiet (fail)
        go_wp2_with (go_at_call 83; go_must (refine (fail_any _ cb S c (HC.out.kp ((Kp.refl w).drewN _)) 7).mono ?_); rintro e w1 ⟨he, hk1⟩; unfold stopE at he; subst he)
        exact ⟨rfl, .inr ⟨_, HN2.out, rfl⟩, Below.mono (((Kp.refl w).drewN _).trans hk1) (Nat.le_of_lt HC.out.lt)⟩
      · have j4 : ¬ (16 : Int) < (s.size : Int) := by omega
        have HN2 := hid (HNM.out.trans (if_neg h16))
        clear h16
        obtain ⟨x, hx⟩ : ∃ x, isWord s.data.toList = x := ⟨_, rfl⟩
        rw [hx] at HN2
        have HX := hid hx
        clear hx
        cases x
        · cases hq : putM c 1 s s.size with
          | ok c2 =>
            have HQ := hid hq
            clear hq
            go_wp2_with fail
            go_quiet (fail)
            go_wp2_with first | (go_at_call 90; go_must (refine (word_word s _).mono ?_); rintro e w1 ⟨rfl, rfl⟩; rw [HX.out]) | (go_at_call 81; go_must (refine (put_any _ cb S c (HC.out.kp ((Kp.refl w).drewN _)) 1 (by unfold okI; omega) s HSS.out.1 s.size HSS.out.2).mono ?_); intro e w2 hp; obtain ⟨he, hc2, hb2⟩ := CutP.of_ok hp HQ.out; subst he; clear hp)
            first | go_end0 | refine bodyPost_ret (results_none rfl _ _ _) rfl ?_
            exact ⟨.inl ⟨_, HN2.out.trans HQ.out, rfl, hc2⟩, Below.trans (Below.mono ((Kp.refl w).drewN _) (Nat.le_of_lt HC.out.lt)) hb2⟩
          | error er =>
            have HQ := hid hq
            clear hq
            go_wp2_with fail
            go_quiet (fail)
            go_wp2_with first | (go_at_call 90; go_must (refine (word_word s _).mono ?_); rintro e w1 ⟨rfl, rfl⟩; rw [HX.out]) | (go_at_call 81; go_must (refine (put_any _ cb S c (HC.out.kp ((Kp.refl w).drewN _)) 1 (by unfold okI; omega) s HSS.out.1 s.size HSS.out.2).mono ?_); intro e w2 hp; obtain ⟨he, hb2⟩ := CutP.of_err hp HQ.out; unfold stopE at he; subst he; clear hp)
            exact ⟨rfl, .inr ⟨_, HN2.out.trans HQ.out, rfl⟩, Below.trans (Below.mono ((Kp.refl w).drewN _) (Nat.le_of_lt HC.out.lt)) hb2⟩
        · cases hq : putM c 5 s s.size with
          | ok c2 =>
            have HQ := hid hq
            clear hq
            go_wp2_with fail
            go_quiet (fail)
            go_wp2_with first | (go_at_call 90; go_must (refine (word_word s _).mono ?_); rintro e w1 ⟨rfl, rfl⟩; rw [HX.out]) | (go_at_call 81; go_must (refine (put_any _ cb S c (HC.out.kp ((Kp.refl w).drewN _)) 5 (by unfold okI; omega) s HSS.out.1 s.size HSS.out.2).mono ?_); intro e w2 hp; obtain ⟨he, hc2, hb2⟩ := CutP.of_ok hp HQ.out; subst he; clear hp)
            first | go_end0 | refine bodyPost_ret (results_none rfl _ _ _) rfl ?_
            exact ⟨.inl ⟨_, HN2.out.trans HQ.out, rfl, hc2⟩, Below.trans (Below.mono ((Kp.refl w).drewN _) (Nat.le_of_lt HC.out.lt)) hb2⟩
          | error er =>
            have HQ := hid hq
            clear hq
            go_wp2_with fail
            go_quiet (fail)
            go_wp2_with first | (go_at_call 90; go_must (refine (word_word s _).mono ?_); rintro e w1 ⟨rfl, rfl⟩; rw [HX.out]) | (go_at_call 81; go_must (refine (put_any _ cb S c (HC.out.kp ((Kp.refl w).drewN _)) 5 (by unfold okI; omega) s HSS.out.1 s.size HSS.out.2).mono ?_); intro e w2 hp; obtain ⟨he, hb2⟩ := CutP.of_err hp HQ.out; unfold stopE at he; subst he; clear hp)
            exact ⟨rfl, .inr ⟨_, HN2.out.trans HQ.out, rfl⟩, Below.trans (Below.mono ((Kp.refl w).drewN _) (Nat.le_of_lt HC.out.lt)) hb2⟩
open Classical in
noncomputable def numberM (S : ByteArray) (c : CutM) : Except Err CutM :=
  if NumP ((restOf S c.pos).take (span_ wordB (restOf S c.pos))) then putM c 2 (S.extract c.pos (c.pos + span_ wordB (restOf S c.pos))) (span_ wordB (restOf S c.pos)) else .error (3, c.line, c.col)
theorem number_at {S : ByteArray} {c : CutM} {k : Nat} {s : ByteArray} (h : SpanI wordB S c.pos k) (hf : S.size ≤ k ∨ ∃ hk : k < S.size, wordB S[k] = false) (hs : S.extract c.pos k = s) : (NumP s.data.toList → numberM S c = putM c 2 s s.size) ∧ (¬ NumP s.data.toList → numberM S c = .error (3, c.line, c.col)) ∧ s.size = k - c.pos := by
  have hfin := h.fin hf
  obtain ⟨h1, h2, _⟩ := h
  have hz := ext_size h1 h2
  rw [hs] at hz
  unfold numberM
  rw [← ext_rest, hfin, hs, show span_ wordB (restOf S c.pos) = s.size by omega]
  exact ⟨fun hn => if_pos hn, fun hn => if_neg hn, hz⟩
theorem bytes_eq {s : ByteArray} {l : Bs} (h : s.data.toList = l) : s = ⟨l.toArray⟩ := by
  subst h; cases s; simp
theorem read_yes (s : ByteArray) (w : World) (h : NumP s.data.toList) : Calls Try.prog 91 #[.string s] w fun e w' => (∃ n, e = .returned (.tuple #[.int .i64 n, .int .i64 0])) ∧ Kp w w' := by
  obtain ⟨n, h1, h2, h3⟩ := h
  rw [bytes_eq h3.symm]
  exact (read_hit n w ⟨h1, h2⟩).mono fun e w' ⟨h4, h5⟩ => ⟨⟨n, h4⟩, h5⟩
theorem read_no (s : ByteArray) (w : World) (h : ¬ NumP s.data.toList) (hs : s.size ≤ 140737488351232) : Calls Try.prog 91 #[.string s] w fun e w' => e = .returned (.tuple #[.int .i64 0, .int .i64 3]) ∧ Kp w w' := by
  refine read_miss s w (fun n hn => ?_) (by unfold maxLen; omega)
  rw [beq_eq_false_iff_ne]
  intro e
  exact h ⟨n, hn.1, hn.2, by rw [e, ByteArray.toList_eq]⟩
set_option maxRecDepth 20000 in
set_option maxHeartbeats 4000000 in
theorem number_any (w : World) (cb : Nat) (S : ByteArray) (c : CutM) (h : CutS w cb S c) : Calls Try.prog 79 #[.pointer (some ⟨cb, 0, none⟩)] w (CutP w cb S (numberM S c)) := by
  have HC := hid h
  obtain ⟨⟨ov, h⟩, bd⟩ := h
  have H := hid h; have BD := hid bd
  have c0 := h.c0; have c1 := h.c1
  have hlt := h.lt
  have HS0 := hid (show SpanI wordB S c.pos c.pos from ⟨Nat.le_refl _, bd.pos, by omega⟩)
  clear h bd
  go_enter Try.func79, Try.ntmps79
  go_wp2_with fail
  go_loop [2] (fun n => ∃ k : Nat, n = .int .i64 (k : Int) ∧ SpanI wordB S c.pos k) (fun n => S.size - (intOf n).toNat)
  case atStart => exact ⟨_, rfl, HS0.out⟩
  case round =>
    obtain ⟨k, rfl, hsp⟩ := hrel
    have HSP := hid hsp
    by_cases hk : k < S.size
    · obtain ⟨b, hb⟩ : ∃ b, S[k] = b := ⟨_, rfl⟩
      have HB := hid hb
      have i1 : (k : Int) < (S.size : Int) := by omega
      have HW := hid (wrap_up (n := k) (by have := BD.out.size; omega))
      clear hsp
      cases hl : letterB b with
      | true =>
        have HL := hid hl
        clear hl
        go_wp2_with (go_at_call 76; go_must (refine (letter_any b _).mono ?_); rintro e w1 ⟨rfl, rfl⟩; rw [HL.out])
        exact span_up (HSP.out.up hk HB.out (word_yes1 HL.out)) HW.out hk
      | false =>
        have HL := hid hl
        clear hl
        cases hd : digitB b with
        | true =>
          have HD := hid hd
          clear hd
          go_wp2_with first | (go_at_call 76; go_must (refine (letter_any b _).mono ?_); rintro e w1 ⟨rfl, rfl⟩; rw [HL.out]) | (go_at_call 78; go_must (refine (digit_any b _).mono ?_); rintro e w1 ⟨rfl, rfl⟩; rw [HD.out])
          exact span_up (HSP.out.up hk HB.out (word_yes2 HD.out)) HW.out hk
        | false =>
          have HD := hid hd
          clear hd
          have hsp := HSP.out
          obtain ⟨s, hs⟩ : ∃ s, S.extract c.pos k = s := ⟨_, rfl⟩
          obtain ⟨hnm, hno, hsz⟩ := number_at hsp (.inr ⟨hk, by rw [HB.out]; exact word_no HL.out HD.out⟩) hs
          obtain ⟨hsp1, hsp2, _⟩ := hsp
          have HNM := hid hnm; have HNO := hid hno
          have HSS := hid (show s.size ≤ 140737488351232 ∧ c.pos + s.size ≤ S.size by have := BD.out.size; omega)
          have j1 : (0 : Int) ≤ (c.pos : Int) := by omega
          have j2 : (c.pos : Int) ≤ (k : Int) := by omega
          have j3 : (k : Int) ≤ (S.size : Int) := by omega
          clear hnm hno hsz hsp1 hsp2
          by_cases hN : NumP s.data.toList
          · have HN2 := hid (HNM.out hN)
            have HNN := hid hN
            clear hN
            cases hq : putM c 2 s s.size with
            | ok c2 =>
              have HQ := hid hq
              clear hq
              go_wp2_with first | (go_at_call 76; go_must (refine (letter_any b _).mono ?_); rintro e w1 ⟨rfl, rfl⟩; rw [HL.out]) | (go_at_call 78; go_must (refine (digit_any b _).mono ?_); rintro e w1 ⟨rfl, rfl⟩; rw [HD.out])
              go_quiet (fail)
              go_wp2_with first | (go_at_call 91; go_must (refine (read_yes s _ HNN.out).mono ?_); rintro e w1 ⟨⟨nn, rfl⟩, hk1⟩; have HK1 := hid hk1; clear hk1) | (go_at_call 81; go_must (refine (put_any _ cb S c (HC.out.kp (((Kp.refl w).drewN _).trans HK1.out)) 2 (by unfold okI; omega) s HSS.out.1 s.size HSS.out.2).mono ?_); intro e w2 hp; obtain ⟨he, hc2, hb2⟩ := CutP.of_ok hp HQ.out; subst he; clear hp)
              first | go_end0 | refine bodyPost_ret (results_none rfl _ _ _) rfl ?_
              exact ⟨.inl ⟨_, HN2.out.trans HQ.out, rfl, hc2⟩, Below.trans (Below.mono ((((Kp.refl w).drewN _).trans HK1.out)) (Nat.le_of_lt HC.out.lt)) hb2⟩
            | error er =>
              have HQ := hid hq
              clear hq
              go_wp2_with first | (go_at_call 76; go_must (refine (letter_any b _).mono ?_); rintro e w1 ⟨rfl, rfl⟩; rw [HL.out]) | (go_at_call 78; go_must (refine (digit_any b _).mono ?_); rintro e w1 ⟨rfl, rfl⟩; rw [HD.out])
              go_quiet (fail)
              go_wp2_with first | (go_at_call 91; go_must (refine (read_yes s _ HNN.out).mono ?_); rintro e w1 ⟨⟨nn, rfl⟩, hk1⟩; have HK1 := hid hk1; clear hk1) | (go_at_call 81; go_must (refine (put_any _ cb S c (HC.out.kp (((Kp.refl w).drewN _).trans HK1.out)) 2 (by unfold okI; omega) s HSS.out.1 s.size HSS.out.2).mono ?_); intro e w2 hp; obtain ⟨he, hb2⟩ := CutP.of_err hp HQ.out; unfold stopE at he; subst he; clear hp)
              exact ⟨rfl, .inr ⟨_, HN2.out.trans HQ.out, rfl⟩, Below.trans (Below.mono ((((Kp.refl w).drewN _).trans HK1.out)) (Nat.le_of_lt HC.out.lt)) hb2⟩
          · have HN2 := hid (HNO.out hN)
            have HNN := hid hN
            clear hN
            go_wp2_with first | (go_at_call 76; go_must (refine (letter_any b _).mono ?_); rintro e w1 ⟨rfl, rfl⟩; rw [HL.out]) | (go_at_call 78; go_must (refine (digit_any b _).mono ?_); rintro e w1 ⟨rfl, rfl⟩; rw [HD.out])
            go_quiet (fail)
            go_wp2_with first | (go_at_call 91; go_must (refine (read_no s _ HNN.out HSS.out.1).mono ?_); rintro e w1 ⟨rfl, hk1⟩; have HK1 := hid hk1; clear hk1) | (go_at_call 83; go_must (refine (fail_any _ cb S c (HC.out.kp (((Kp.refl w).drewN _).trans HK1.out)) 3).mono ?_); rintro e w2 ⟨he, hk2⟩; unfold stopE at he; subst he)
            exact ⟨rfl, .inr ⟨_, HN2.out, rfl⟩, Below.mono ((((Kp.refl w).drewN _).trans HK1.out).trans hk2) (Nat.le_of_lt HC.out.lt)⟩
    · have i1 : ¬ (k : Int) < (S.size : Int) := by omega
      obtain ⟨s, hs⟩ : ∃ s, S.extract c.pos k = s := ⟨_, rfl⟩
      obtain ⟨hnm, hno, hsz⟩ := number_at hsp (.inl (Nat.le_of_not_lt hk)) hs
      obtain ⟨hsp1, hsp2, _⟩ := hsp
      have HNM := hid hnm; have HNO := hid hno
      have HSS := hid (show s.size ≤ 140737488351232 ∧ c.pos + s.size ≤ S.size by have := BD.out.size; omega)
      have j1 : (0 : Int) ≤ (c.pos : Int) := by omega
      have j2 : (c.pos : Int) ≤ (k : Int) := by omega
      have j3 : (k : Int) ≤ (S.size : Int) := by omega
      clear hnm hno hsz hsp1 hsp2
      by_cases hN : NumP s.data.toList
      · have HN2 := hid (HNM.out hN)
        have HNN := hid hN
        clear hN
        cases hq : putM c 2 s s.size with
        | ok c2 =>
          have HQ := hid hq
          clear hq
          go_wp2_with fail
          go_quiet (fail)
          go_wp2_with first | (go_at_call 91; go_must (refine (read_yes s _ HNN.out).mono ?_); rintro e w1 ⟨⟨nn, rfl⟩, hk1⟩; have HK1 := hid hk1; clear hk1) | (go_at_call 81; go_must (refine (put_any _ cb S c (HC.out.kp (((Kp.refl w).drewN _).trans HK1.out)) 2 (by unfold okI; omega) s HSS.out.1 s.size HSS.out.2).mono ?_); intro e w2 hp; obtain ⟨he, hc2, hb2⟩ := CutP.of_ok hp HQ.out; subst he; clear hp)
          first | go_end0 | refine bodyPost_ret (results_none rfl _ _ _) rfl ?_
          exact ⟨.inl ⟨_, HN2.out.trans HQ.out, rfl, hc2⟩, Below.trans (Below.mono ((((Kp.refl w).drewN _).trans HK1.out)) (Nat.le_of_lt HC.out.lt)) hb2⟩
        | error er =>
          have HQ := hid hq
          clear hq
          go_wp2_with fail
          go_quiet (fail)
          go_wp2_with first | (go_at_call 91; go_must (refine (read_yes s _ HNN.out).mono ?_); rintro e w1 ⟨⟨nn, rfl⟩, hk1⟩; have HK1 := hid hk1; clear hk1) | (go_at_call 81; go_must (refine (put_any _ cb S c (HC.out.kp (((Kp.refl w).drewN _).trans HK1.out)) 2 (by unfold okI; omega) s HSS.out.1 s.size HSS.out.2).mono ?_); intro e w2 hp; obtain ⟨he, hb2⟩ := CutP.of_err hp HQ.out; unfold stopE at he; subst he; clear hp)
          exact ⟨rfl, .inr ⟨_, HN2.out.trans HQ.out, rfl⟩, Below.trans (Below.mono ((((Kp.refl w).drewN _).trans HK1.out)) (Nat.le_of_lt HC.out.lt)) hb2⟩
      · have HN2 := hid (HNO.out hN)
        have HNN := hid hN
        clear hN
        go_wp2_with fail
        go_quiet (fail)
        go_wp2_with first | (go_at_call 91; go_must (refine (read_no s _ HNN.out HSS.out.1).mono ?_); rintro e w1 ⟨rfl, hk1⟩; have HK1 := hid hk1; clear hk1) | (go_at_call 83; go_must (refine (fail_any _ cb S c (HC.out.kp (((Kp.refl w).drewN _).trans HK1.out)) 3).mono ?_); rintro e w2 ⟨he, hk2⟩; unfold stopE at he; subst he)
        exact ⟨rfl, .inr ⟨_, HN2.out, rfl⟩, Below.mono ((((Kp.refl w).drewN _).trans HK1.out).trans hk2) (Nat.le_of_lt HC.out.lt)⟩
end Go.Proofs.Ytgonekmmbeedeaa
