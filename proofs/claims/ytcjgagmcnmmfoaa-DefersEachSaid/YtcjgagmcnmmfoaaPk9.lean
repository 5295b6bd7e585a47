/-
  Parts of the proof of a law: ParE. No condition.
-/
import Derived.Test.YtcjgagmcnmmfoaaPk6
import Derived.Test.YtcjgagmcnmmfoaaPk7
import Derived.Test.YtcjgagmcnmmfoaaPk8
set_option maxRecDepth 20000
set_option maxHeartbeats 16000000
set_option linter.unusedVariables false
set_option linter.unusedSimpArgs false
namespace Go.Proofs.Ytcjgagmcnmmfoaa.Pa
open Go.RowKit

theorem prim_ok (f : Nat) (H : Ctr f) : C1 1 77 (primF (f + 1)) := by
 refine base1 fun {w rp L l P Na s} h hne => ?_
 by_cases c1 : kindOf l = 1
 ·have hr : primF (f + 1) l = .ok (.node 25 (textOf l) noB 0 []) l.tail := by rw [primF]; simp [c1, want, nmM, nd, Pr.bind]
  rw [hr]
  clear hr hne
  have htx := h.text_ok
  have HS := hid h
  clear h
  go_enter Try.func77, Try.ntmps77
  go_upto_region 2 with (go_at_call 16; go_must (refine (t_kind HS.out).mono ?_); rintro e wn ⟨rfl, hs, hk⟩; rw [c1]; have HS := hid hs; clear hs hk)
  go_wp2_with first | (go_at_call 18; go_must (refine (t_name HS.out c1).mono ?_); rintro e wn ⟨rfl, hs, hk⟩; have HS := hid hs; clear hs hk) | (go_at_call 21; go_must (refine (t_put (ts := []) (us := []) 25 (textOf l) noB 0 (by unfold okI; omega) (htx) (by decide) (okI0) HS.out).mono ?_); rintro e wn ⟨q, rfl, hqq, hs, hk⟩; have HQq := hid hqq; clear hqq; have HS := hid hs; clear hs hk)
  go_ret
  exact ⟨q, rfl, HQq.out, StT.weak HS.out (by omega)⟩
 by_cases c2 : kindOf l = 2
 ·have hr : primF (f + 1) l = .ok (.node 21 noB noB (numOf (textOf l)) []) l.tail := by rw [primF]; simp [c1, c2, want, nmM, nd, Pr.bind]
  rw [hr]
  clear hr hne
  have htx := h.text_ok
  have hnum := numOf_ok (textOf l)
  have hl0 := kind_ne c2 (by decide)
  have HS := hid h
  clear h
  go_enter Try.func77, Try.ntmps77
  go_upto_region 2 with (go_at_call 16; go_must (refine (t_kind HS.out).mono ?_); rintro e wn ⟨rfl, hs, hk⟩; rw [c2]; have HS := hid hs; clear hs hk)
  go_upto_region 7 with first | (go_at_call 47; go_must (refine (t_text HS.out).mono ?_); rintro e wn ⟨rfl, hs, hk⟩; have HS := hid hs; clear hs hk) | (go_at_call 44; go_must (refine (read_o (textOf l) _ (by omega)).mono ?_); rintro e wn ⟨rfl, hk⟩; generalize (if (readO (textOf l).data.toList).isSome = true then (0 : Int) else 3) = ec; have HS := hid (HS.out.kp hk); have hs := HS.out; clear hk; have hs := StT.pass hs hl0; obtain ⟨n, n1, p1, p2, p3, p4, p5⟩ := hs; have HP4 := hid p4; clear p4 p5; )
  have HS := hid (HP4.out)
  clear HP4 p1 p2 p3
  generalize World.setCell _ _ _ = W2 at HS ⊢
  go_wp2_with (go_at_call 21; go_must (refine (t_put (ts := []) (us := []) 21 noB noB (numOf (textOf l)) (by unfold okI; omega) (by decide) (by decide) (hnum) HS.out).mono ?_); rintro e wn ⟨q, rfl, hqq, hs, hk⟩; have HQq := hid hqq; clear hqq; have HS := hid hs; clear hs hk)
  go_ret
  exact ⟨q, rfl, HQq.out, StT.weak HS.out (by omega)⟩
 by_cases c3 : kindOf l = 3
 ·have hr : primF (f + 1) l = .ok (.node 22 (sayOf (textOf l)) noB 0 []) l.tail := by rw [primF]; simp [c1, c2, c3, want, nmM, nd, Pr.bind]
  rw [hr]
  clear hr hne
  have htx := h.text_ok
  have hsay := sayOf_ok (textOf l)
  have hl0 := kind_ne c3 (by decide)
  have HS := hid h
  clear h
  go_enter Try.func77, Try.ntmps77
  go_upto_region 2 with (go_at_call 16; go_must (refine (t_kind HS.out).mono ?_); rintro e wn ⟨rfl, hs, hk⟩; rw [c3]; have HS := hid hs; clear hs hk)
  go_upto_region 11 with first | (go_at_call 47; go_must (refine (t_text HS.out).mono ?_); rintro e wn ⟨rfl, hs, hk⟩; have HS := hid hs; clear hs hk) | (go_at_call 45; go_must (refine (unquote_o (textOf l) _ htx).mono ?_); rintro e wn ⟨rfl, hk⟩; generalize (if (unqO (textOf l)).isSome = true then (0 : Int) else 4) = ec; have HS := hid (HS.out.kp hk); have hs := HS.out; clear hk; have hs := StT.pass hs hl0; obtain ⟨n, n1, p1, p2, p3, p4, p5⟩ := hs; have HP4 := hid p4; clear p4 p5; )
  have HS := hid (HP4.out)
  clear HP4 p1 p2 p3
  generalize World.setCell _ _ _ = W2 at HS ⊢
  go_wp2_with (go_at_call 21; go_must (refine (t_put (ts := []) (us := []) 22 (sayOf (textOf l)) noB 0 (by unfold okI; omega) (hsay) (by decide) (okI0) HS.out).mono ?_); rintro e wn ⟨q, rfl, hqq, hs, hk⟩; have HQq := hid hqq; clear hqq; have HS := hid hs; clear hs hk)
  go_ret
  exact ⟨q, rfl, HQq.out, StT.weak HS.out (by omega)⟩
 obtain ⟨kk, ckk⟩ : ∃ kk, kindOf l = kk := ⟨_, rfl⟩
 have k1 : (kk == 1) = false := by rw [beq_eq_false_iff_ne]; rw [← ckk]; exact c1
 have k2 : (kk == 2) = false := by rw [beq_eq_false_iff_ne]; rw [← ckk]; exact c2
 have k3 : (kk == 3) = false := by rw [beq_eq_false_iff_ne]; rw [← ckk]; exact c3
 by_cases d1 : isSign kTrue l = true
 ·have hr : primF (f + 1) l = .ok (.node 23 noB noB 1 []) l.tail := by rw [primF]; simp [c1, c2, c3, d1, want, nmM, nd, Pr.bind]
  rw [hr]
  clear hr hne
  have HS := hid h
  clear h
  go_enter Try.func77, Try.ntmps77
  go_upto_region 2 with (go_at_call 16; go_must (refine (t_kind HS.out).mono ?_); rintro e wn ⟨rfl, hs, hk⟩; rw [ckk]; have HS := hid hs; clear hs hk)
  go_upto_region 13 with (go_at_call 35; go_must (refine (t_sign ⟨#[116, 114, 117, 101]⟩ [116, 114, 117, 101] rfl HS.out d1).mono ?_); rintro e wn ⟨rfl, hs, hk⟩; have HS := hid hs; clear hs hk)
  go_wp2_with (go_at_call 21; go_must (refine (t_put (ts := []) (us := []) 23 noB noB 1 (by unfold okI; omega) (by decide) (by decide) (okI1) HS.out).mono ?_); rintro e wn ⟨q, rfl, hqq, hs, hk⟩; have HQq := hid hqq; clear hqq; have HS := hid hs; clear hs hk)
  go_ret
  exact ⟨q, rfl, HQq.out, StT.weak HS.out (by omega)⟩
 have gd1 := eq_false_of_ne_true d1
 by_cases d2 : isSign kFalse l = true
 ·have hr : primF (f + 1) l = .ok (nd 23 []) l.tail := by rw [primF]; simp [c1, c2, c3, gd1, d2, want, nmM, nd, Pr.bind]
  rw [hr]
  clear hr hne
  have HS := hid h
  clear h
  go_enter Try.func77, Try.ntmps77
  go_upto_region 2 with (go_at_call 16; go_must (refine (t_kind HS.out).mono ?_); rintro e wn ⟨rfl, hs, hk⟩; rw [ckk]; have HS := hid hs; clear hs hk)
  go_upto_region 14 with (go_at_call 35; go_must (refine (t_signN ⟨#[116, 114, 117, 101]⟩ [116, 114, 117, 101] rfl HS.out gd1).mono ?_); rintro e wn ⟨rfl, hs, hk⟩; have HS := hid hs; clear hs hk)
  go_upto_region 15 with (go_at_call 35; go_must (refine (t_sign ⟨#[102, 97, 108, 115, 101]⟩ [102, 97, 108, 115, 101] rfl HS.out d2).mono ?_); rintro e wn ⟨rfl, hs, hk⟩; have HS := hid hs; clear hs hk)
  go_wp2_with (go_at_call 21; go_must (refine (t_put (ts := []) (us := []) 23 noB noB 0 (by unfold okI; omega) (by decide) (by decide) (okI0) HS.out).mono ?_); rintro e wn ⟨q, rfl, hqq, hs, hk⟩; have HQq := hid hqq; clear hqq; have HS := hid hs; clear hs hk)
  go_ret
  exact ⟨q, rfl, HQq.out, StT.weak HS.out (by omega)⟩
 have gd2 := eq_false_of_ne_true d2
 by_cases d3 : isSign kNil l = true
 ·have hr : primF (f + 1) l = .ok (nd 24 []) l.tail := by rw [primF]; simp [c1, c2, c3, gd1, gd2, d3, want, nmM, nd, Pr.bind]
  rw [hr]
  clear hr hne
  have HS := hid h
  clear h
  go_enter Try.func77, Try.ntmps77
  go_upto_region 2 with (go_at_call 16; go_must (refine (t_kind HS.out).mono ?_); rintro e wn ⟨rfl, hs, hk⟩; rw [ckk]; have HS := hid hs; clear hs hk)
  go_upto_region 14 with (go_at_call 35; go_must (refine (t_signN ⟨#[116, 114, 117, 101]⟩ [116, 114, 117, 101] rfl HS.out gd1).mono ?_); rintro e wn ⟨rfl, hs, hk⟩; have HS := hid hs; clear hs hk)
  go_upto_region 16 with (go_at_call 35; go_must (refine (t_signN ⟨#[102, 97, 108, 115, 101]⟩ [102, 97, 108, 115, 101] rfl HS.out gd2).mono ?_); rintro e wn ⟨rfl, hs, hk⟩; have HS := hid hs; clear hs hk)
  go_upto_region 17 with (go_at_call 35; go_must (refine (t_sign ⟨#[110, 105, 108]⟩ [110, 105, 108] rfl HS.out d3).mono ?_); rintro e wn ⟨rfl, hs, hk⟩; have HS := hid hs; clear hs hk)
  go_wp2_with (go_at_call 21; go_must (refine (t_put (ts := []) (us := []) 24 noB noB 0 (by unfold okI; omega) (by decide) (by decide) (okI0) HS.out).mono ?_); rintro e wn ⟨q, rfl, hqq, hs, hk⟩; have HQq := hid hqq; clear hqq; have HS := hid hs; clear hs hk)
  go_ret
  exact ⟨q, rfl, HQq.out, StT.weak HS.out (by omega)⟩
 have gd3 := eq_false_of_ne_true d3
 by_cases d4 : isSign [40] l = true
 ·cases hu : exprF f 1 l.tail with
  | out => exact absurd (by rw [primF]; simp [c1, c2, c3, gd1, gd2, gd3, d4, hu, Pr.bind]) hne
  | bad =>
   have hnu : exprF f 1 l.tail ≠ .out := by rw [hu]; intro e; cases e
   have hr : primF (f + 1) l = .bad := by rw [primF]; simp [c1, c2, c3, gd1, gd2, gd3, d4, hu, want, nmM, nd, Pr.bind]
   rw [hr]
   clear hr hne
   have HS := hid h
   clear h
   go_enter Try.func77, Try.ntmps77
   go_upto_region 2 with (go_at_call 16; go_must (refine (t_kind HS.out).mono ?_); rintro e wn ⟨rfl, hs, hk⟩; rw [ckk]; have HS := hid hs; clear hs hk)
   go_upto_region 14 with (go_at_call 35; go_must (refine (t_signN ⟨#[116, 114, 117, 101]⟩ [116, 114, 117, 101] rfl HS.out gd1).mono ?_); rintro e wn ⟨rfl, hs, hk⟩; have HS := hid hs; clear hs hk)
   go_upto_region 16 with (go_at_call 35; go_must (refine (t_signN ⟨#[102, 97, 108, 115, 101]⟩ [102, 97, 108, 115, 101] rfl HS.out gd2).mono ?_); rintro e wn ⟨rfl, hs, hk⟩; have HS := hid hs; clear hs hk)
   go_upto_region 18 with (go_at_call 35; go_must (refine (t_signN ⟨#[110, 105, 108]⟩ [110, 105, 108] rfl HS.out gd3).mono ?_); rintro e wn ⟨rfl, hs, hk⟩; have HS := hid hs; clear hs hk)
   go_upto_region 19 with (go_at_call 35; go_must (refine (t_sign ⟨#[40]⟩ [40] rfl HS.out d4).mono ?_); rintro e wn ⟨rfl, hs, hk⟩; have HS := hid hs; clear hs hk)
   go_wp2_with (go_at_call 61; go_must (refine ((H.expr 1 (by omega) HS.out hnu).mono fun _ _ x => Res.bad x hu).mono ?_); rintro e wn ⟨rfl, hb⟩; unfold stopP; have HB := hid hb; clear hb)
   exact ⟨rfl, rfl, HB.out⟩
  | ok a r =>
   have hnu : exprF f 1 l.tail ≠ .out := by rw [hu]; intro e; cases e
   by_cases e1 : isSign [41] r = true
   ·have hr : primF (f + 1) l = .ok a r.tail := by rw [primF]; simp [c1, c2, c3, gd1, gd2, gd3, d4, hu, e1, want, nmM, nd, Pr.bind]
    rw [hr]
    clear hr hne
    have HS := hid h
    clear h
    go_enter Try.func77, Try.ntmps77
    go_upto_region 2 with (go_at_call 16; go_must (refine (t_kind HS.out).mono ?_); rintro e wn ⟨rfl, hs, hk⟩; rw [ckk]; have HS := hid hs; clear hs hk)
    go_upto_region 14 with (go_at_call 35; go_must (refine (t_signN ⟨#[116, 114, 117, 101]⟩ [116, 114, 117, 101] rfl HS.out gd1).mono ?_); rintro e wn ⟨rfl, hs, hk⟩; have HS := hid hs; clear hs hk)
    go_upto_region 16 with (go_at_call 35; go_must (refine (t_signN ⟨#[102, 97, 108, 115, 101]⟩ [102, 97, 108, 115, 101] rfl HS.out gd2).mono ?_); rintro e wn ⟨rfl, hs, hk⟩; have HS := hid hs; clear hs hk)
    go_upto_region 18 with (go_at_call 35; go_must (refine (t_signN ⟨#[110, 105, 108]⟩ [110, 105, 108] rfl HS.out gd3).mono ?_); rintro e wn ⟨rfl, hs, hk⟩; have HS := hid hs; clear hs hk)
    go_upto_region 19 with (go_at_call 35; go_must (refine (t_sign ⟨#[40]⟩ [40] rfl HS.out d4).mono ?_); rintro e wn ⟨rfl, hs, hk⟩; have HS := hid hs; clear hs hk)
    go_wp2_with first | (go_at_call 61; go_must (refine ((H.expr 1 (by omega) HS.out hnu).mono fun _ _ x => Res.ok x hu).mono ?_); rintro e wn ⟨q, rfl, hqq, hs⟩; have HQq := hid hqq; clear hqq; have HS := hid hs; clear hs) | (go_at_call 17; go_must (refine (t_want ⟨#[41]⟩ [41] rfl HS.out e1).mono ?_); rintro e wn ⟨rfl, hs, hk⟩; have HS := hid hs; clear hs hk)
    go_ret
    exact ⟨q, rfl, HQq.out, StT.weak HS.out (by omega)⟩
   ·have e2 := eq_false_of_ne_true e1
    have hr : primF (f + 1) l = .bad := by rw [primF]; simp [c1, c2, c3, gd1, gd2, gd3, d4, hu, e2, want, nmM, nd, Pr.bind]
    rw [hr]
    clear hr hne
    have HS := hid h
    clear h
    go_enter Try.func77, Try.ntmps77
    go_upto_region 2 with (go_at_call 16; go_must (refine (t_kind HS.out).mono ?_); rintro e wn ⟨rfl, hs, hk⟩; rw [ckk]; have HS := hid hs; clear hs hk)
    go_upto_region 14 with (go_at_call 35; go_must (refine (t_signN ⟨#[116, 114, 117, 101]⟩ [116, 114, 117, 101] rfl HS.out gd1).mono ?_); rintro e wn ⟨rfl, hs, hk⟩; have HS := hid hs; clear hs hk)
    go_upto_region 16 with (go_at_call 35; go_must (refine (t_signN ⟨#[102, 97, 108, 115, 101]⟩ [102, 97, 108, 115, 101] rfl HS.out gd2).mono ?_); rintro e wn ⟨rfl, hs, hk⟩; have HS := hid hs; clear hs hk)
    go_upto_region 18 with (go_at_call 35; go_must (refine (t_signN ⟨#[110, 105, 108]⟩ [110, 105, 108] rfl HS.out gd3).mono ?_); rintro e wn ⟨rfl, hs, hk⟩; have HS := hid hs; clear hs hk)
    go_upto_region 19 with (go_at_call 35; go_must (refine (t_sign ⟨#[40]⟩ [40] rfl HS.out d4).mono ?_); rintro e wn ⟨rfl, hs, hk⟩; have HS := hid hs; clear hs hk)
    go_wp2_with first | (go_at_call 61; go_must (refine ((H.expr 1 (by omega) HS.out hnu).mono fun _ _ x => Res.ok x hu).mono ?_); rintro e wn ⟨q, rfl, hqq, hs⟩; have HQq := hid hqq; clear hqq; have HS := hid hs; clear hs) | (go_at_call 17; go_must (refine (t_wantN ⟨#[41]⟩ [41] rfl HS.out e2).mono ?_); rintro e wn ⟨rfl, hb, hk⟩; unfold stopP; have HB := hid hb; clear hb hk)
    exact ⟨rfl, rfl, HB.out⟩
 have gd4 := eq_false_of_ne_true d4
 by_cases d5 : isSign kFunc l = true
 ·cases hu : funF f 33 noB l.tail with
  | out => exact absurd (by rw [primF]; simp [c1, c2, c3, gd1, gd2, gd3, gd4, d5, hu]) hne
  | bad =>
   have hnu : funF f 33 noB l.tail ≠ .out := by rw [hu]; intro e; cases e
   have hr : primF (f + 1) l = .bad := by rw [primF]; simp [c1, c2, c3, gd1, gd2, gd3, gd4, d5, hu, want, nmM, nd, Pr.bind]
   rw [hr]
   clear hr hne
   have HS := hid h
   clear h
   go_enter Try.func77, Try.ntmps77
   go_upto_region 2 with (go_at_call 16; go_must (refine (t_kind HS.out).mono ?_); rintro e wn ⟨rfl, hs, hk⟩; rw [ckk]; have HS := hid hs; clear hs hk)
   go_upto_region 14 with (go_at_call 35; go_must (refine (t_signN ⟨#[116, 114, 117, 101]⟩ [116, 114, 117, 101] rfl HS.out gd1).mono ?_); rintro e wn ⟨rfl, hs, hk⟩; have HS := hid hs; clear hs hk)
   go_upto_region 16 with (go_at_call 35; go_must (refine (t_signN ⟨#[102, 97, 108, 115, 101]⟩ [102, 97, 108, 115, 101] rfl HS.out gd2).mono ?_); rintro e wn ⟨rfl, hs, hk⟩; have HS := hid hs; clear hs hk)
   go_upto_region 18 with (go_at_call 35; go_must (refine (t_signN ⟨#[110, 105, 108]⟩ [110, 105, 108] rfl HS.out gd3).mono ?_); rintro e wn ⟨rfl, hs, hk⟩; have HS := hid hs; clear hs hk)
   go_upto_region 22 with (go_at_call 35; go_must (refine (t_signN ⟨#[40]⟩ [40] rfl HS.out gd4).mono ?_); rintro e wn ⟨rfl, hs, hk⟩; have HS := hid hs; clear hs hk)
   go_upto_region 23 with (go_at_call 35; go_must (refine (t_sign ⟨#[102, 117, 110, 99]⟩ [102, 117, 110, 99] rfl HS.out d5).mono ?_); rintro e wn ⟨rfl, hs, hk⟩; have HS := hid hs; clear hs hk)
   go_wp2_with (go_at_call 19; go_must (refine ((H.fun_ 33 noB (by unfold okI; omega) (by decide) HS.out hnu).mono fun _ _ x => Res.bad x hu).mono ?_); rintro e wn ⟨rfl, hb⟩; unfold stopP; have HB := hid hb; clear hb)
   exact ⟨rfl, rfl, HB.out⟩
  | ok a r =>
   have hnu : funF f 33 noB l.tail ≠ .out := by rw [hu]; intro e; cases e
   have hr : primF (f + 1) l = .ok a r := by rw [primF]; simp [c1, c2, c3, gd1, gd2, gd3, gd4, d5, hu, want, nmM, nd, Pr.bind]
   rw [hr]
   clear hr hne
   have HS := hid h
   clear h
   go_enter Try.func77, Try.ntmps77
   go_upto_region 2 with (go_at_call 16; go_must (refine (t_kind HS.out).mono ?_); rintro e wn ⟨rfl, hs, hk⟩; rw [ckk]; have HS := hid hs; clear hs hk)
   go_upto_region 14 with (go_at_call 35; go_must (refine (t_signN ⟨#[116, 114, 117, 101]⟩ [116, 114, 117, 101] rfl HS.out gd1).mono ?_); rintro e wn ⟨rfl, hs, hk⟩; have HS := hid hs; clear hs hk)
   go_upto_region 16 with (go_at_call 35; go_must (refine (t_signN ⟨#[102, 97, 108, 115, 101]⟩ [102, 97, 108, 115, 101] rfl HS.out gd2).mono ?_); rintro e wn ⟨rfl, hs, hk⟩; have HS := hid hs; clear hs hk)
   go_upto_region 18 with (go_at_call 35; go_must (refine (t_signN ⟨#[110, 105, 108]⟩ [110, 105, 108] rfl HS.out gd3).mono ?_); rintro e wn ⟨rfl, hs, hk⟩; have HS := hid hs; clear hs hk)
   go_upto_region 22 with (go_at_call 35; go_must (refine (t_signN ⟨#[40]⟩ [40] rfl HS.out gd4).mono ?_); rintro e wn ⟨rfl, hs, hk⟩; have HS := hid hs; clear hs hk)
   go_upto_region 23 with (go_at_call 35; go_must (refine (t_sign ⟨#[102, 117, 110, 99]⟩ [102, 117, 110, 99] rfl HS.out d5).mono ?_); rintro e wn ⟨rfl, hs, hk⟩; have HS := hid hs; clear hs hk)
   go_wp2_with (go_at_call 19; go_must (refine ((H.fun_ 33 noB (by unfold okI; omega) (by decide) HS.out hnu).mono fun _ _ x => Res.ok x hu).mono ?_); rintro e wn ⟨q, rfl, hqq, hs⟩; have HQq := hid hqq; clear hqq; have HS := hid hs; clear hs)
   go_ret
   exact ⟨q, rfl, HQq.out, StT.weak HS.out (by omega)⟩
 have gd5 := eq_false_of_ne_true d5
 by_cases e1 : isSign [91] l = true
 rotate_left
 ·have xe1 := eq_false_of_ne_true e1
  have hr : primF (f + 1) l = .bad := by rw [primF]; simp [c1, c2, c3, gd1, gd2, gd3, gd4, gd5, xe1, want, nmM, nd, Pr.bind]
  rw [hr]
  clear hr hne
  have HS := hid h
  clear h
  go_enter Try.func77, Try.ntmps77
  go_upto_region 2 with (go_at_call 16; go_must (refine (t_kind HS.out).mono ?_); rintro e wn ⟨rfl, hs, hk⟩; rw [ckk]; have HS := hid hs; clear hs hk)
  go_upto_region 14 with (go_at_call 35; go_must (refine (t_signN ⟨#[116, 114, 117, 101]⟩ [116, 114, 117, 101] rfl HS.out gd1).mono ?_); rintro e wn ⟨rfl, hs, hk⟩; have HS := hid hs; clear hs hk)
  go_upto_region 16 with (go_at_call 35; go_must (refine (t_signN ⟨#[102, 97, 108, 115, 101]⟩ [102, 97, 108, 115, 101] rfl HS.out gd2).mono ?_); rintro e wn ⟨rfl, hs, hk⟩; have HS := hid hs; clear hs hk)
  go_upto_region 18 with (go_at_call 35; go_must (refine (t_signN ⟨#[110, 105, 108]⟩ [110, 105, 108] rfl HS.out gd3).mono ?_); rintro e wn ⟨rfl, hs, hk⟩; have HS := hid hs; clear hs hk)
  go_upto_region 22 with (go_at_call 35; go_must (refine (t_signN ⟨#[40]⟩ [40] rfl HS.out gd4).mono ?_); rintro e wn ⟨rfl, hs, hk⟩; have HS := hid hs; clear hs hk)
  go_upto_region 24 with (go_at_call 35; go_must (refine (t_signN ⟨#[102, 117, 110, 99]⟩ [102, 117, 110, 99] rfl HS.out gd5).mono ?_); rintro e wn ⟨rfl, hs, hk⟩; have HS := hid hs; clear hs hk)
  go_wp2_with (go_at_call 17; go_must (refine (t_wantN ⟨#[91]⟩ [91] rfl HS.out xe1).mono ?_); rintro e wn ⟨rfl, hb, hk⟩; unfold stopP; have HB := hid hb; clear hb hk)
  exact ⟨rfl, rfl, HB.out⟩
 by_cases e2 : isSign [93] l.tail = true
 rotate_left
 ·have xe2 := eq_false_of_ne_true e2
  have hr : primF (f + 1) l = .bad := by rw [primF]; simp [c1, c2, c3, gd1, gd2, gd3, gd4, gd5, e1, xe2, want, nmM, nd, Pr.bind]
  rw [hr]
  clear hr hne
  have HS := hid h
  clear h
  go_enter Try.func77, Try.ntmps77
  go_upto_region 2 with (go_at_call 16; go_must (refine (t_kind HS.out).mono ?_); rintro e wn ⟨rfl, hs, hk⟩; rw [ckk]; have HS := hid hs; clear hs hk)
  go_upto_region 14 with (go_at_call 35; go_must (refine (t_signN ⟨#[116, 114, 117, 101]⟩ [116, 114, 117, 101] rfl HS.out gd1).mono ?_); rintro e wn ⟨rfl, hs, hk⟩; have HS := hid hs; clear hs hk)
  go_upto_region 16 with (go_at_call 35; go_must (refine (t_signN ⟨#[102, 97, 108, 115, 101]⟩ [102, 97, 108, 115, 101] rfl HS.out gd2).mono ?_); rintro e wn ⟨rfl, hs, hk⟩; have HS := hid hs; clear hs hk)
  go_upto_region 18 with (go_at_call 35; go_must (refine (t_signN ⟨#[110, 105, 108]⟩ [110, 105, 108] rfl HS.out gd3).mono ?_); rintro e wn ⟨rfl, hs, hk⟩; have HS := hid hs; clear hs hk)
  go_upto_region 22 with (go_at_call 35; go_must (refine (t_signN ⟨#[40]⟩ [40] rfl HS.out gd4).mono ?_); rintro e wn ⟨rfl, hs, hk⟩; have HS := hid hs; clear hs hk)
  go_upto_region 24 with (go_at_call 35; go_must (refine (t_signN ⟨#[102, 117, 110, 99]⟩ [102, 117, 110, 99] rfl HS.out gd5).mono ?_); rintro e wn ⟨rfl, hs, hk⟩; have HS := hid hs; clear hs hk)
  go_upto_region 25 with (go_at_call 17; go_must (refine (t_want ⟨#[91]⟩ [91] rfl HS.out e1).mono ?_); rintro e wn ⟨rfl, hs, hk⟩; have HS := hid hs; clear hs hk)
  go_wp2_with (go_at_call 17; go_must (refine (t_wantN ⟨#[93]⟩ [93] rfl HS.out xe2).mono ?_); rintro e wn ⟨rfl, hb, hk⟩; unfold stopP; have HB := hid hb; clear hb hk)
  exact ⟨rfl, rfl, HB.out⟩
 by_cases e3 : isSign kInt l.tail.tail = true
 rotate_left
 ·have xe3 := eq_false_of_ne_true e3
  have hr : primF (f + 1) l = .bad := by rw [primF]; simp [c1, c2, c3, gd1, gd2, gd3, gd4, gd5, e1, e2, xe3, want, nmM, nd, Pr.bind]
  rw [hr]
  clear hr hne
  have HS := hid h
  clear h
  go_enter Try.func77, Try.ntmps77
  go_upto_region 2 with (go_at_call 16; go_must (refine (t_kind HS.out).mono ?_); rintro e wn ⟨rfl, hs, hk⟩; rw [ckk]; have HS := hid hs; clear hs hk)
  go_upto_region 14 with (go_at_call 35; go_must (refine (t_signN ⟨#[116, 114, 117, 101]⟩ [116, 114, 117, 101] rfl HS.out gd1).mono ?_); rintro e wn ⟨rfl, hs, hk⟩; have HS := hid hs; clear hs hk)
  go_upto_region 16 with (go_at_call 35; go_must (refine (t_signN ⟨#[102, 97, 108, 115, 101]⟩ [102, 97, 108, 115, 101] rfl HS.out gd2).mono ?_); rintro e wn ⟨rfl, hs, hk⟩; have HS := hid hs; clear hs hk)
  go_upto_region 18 with (go_at_call 35; go_must (refine (t_signN ⟨#[110, 105, 108]⟩ [110, 105, 108] rfl HS.out gd3).mono ?_); rintro e wn ⟨rfl, hs, hk⟩; have HS := hid hs; clear hs hk)
  go_upto_region 22 with (go_at_call 35; go_must (refine (t_signN ⟨#[40]⟩ [40] rfl HS.out gd4).mono ?_); rintro e wn ⟨rfl, hs, hk⟩; have HS := hid hs; clear hs hk)
  go_upto_region 24 with (go_at_call 35; go_must (refine (t_signN ⟨#[102, 117, 110, 99]⟩ [102, 117, 110, 99] rfl HS.out gd5).mono ?_); rintro e wn ⟨rfl, hs, hk⟩; have HS := hid hs; clear hs hk)
  go_upto_region 25 with (go_at_call 17; go_must (refine (t_want ⟨#[91]⟩ [91] rfl HS.out e1).mono ?_); rintro e wn ⟨rfl, hs, hk⟩; have HS := hid hs; clear hs hk)
  go_upto_region 26 with (go_at_call 17; go_must (refine (t_want ⟨#[93]⟩ [93] rfl HS.out e2).mono ?_); rintro e wn ⟨rfl, hs, hk⟩; have HS := hid hs; clear hs hk)
  go_wp2_with (go_at_call 17; go_must (refine (t_wantN ⟨#[105, 110, 116]⟩ [105, 110, 116] rfl HS.out xe3).mono ?_); rintro e wn ⟨rfl, hb, hk⟩; unfold stopP; have HB := hid hb; clear hb hk)
  exact ⟨rfl, rfl, HB.out⟩
 by_cases e4 : isSign [123] l.tail.tail.tail = true
 rotate_left
 ·have xe4 := eq_false_of_ne_true e4
  have hr : primF (f + 1) l = .bad := by rw [primF]; simp [c1, c2, c3, gd1, gd2, gd3, gd4, gd5, e1, e2, e3, xe4, want, nmM, nd, Pr.bind]
  rw [hr]
  clear hr hne
  have HS := hid h
  clear h
  go_enter Try.func77, Try.ntmps77
  go_upto_region 2 with (go_at_call 16; go_must (refine (t_kind HS.out).mono ?_); rintro e wn ⟨rfl, hs, hk⟩; rw [ckk]; have HS := hid hs; clear hs hk)
  go_upto_region 14 with (go_at_call 35; go_must (refine (t_signN ⟨#[116, 114, 117, 101]⟩ [116, 114, 117, 101] rfl HS.out gd1).mono ?_); rintro e wn ⟨rfl, hs, hk⟩; have HS := hid hs; clear hs hk)
  go_upto_region 16 with (go_at_call 35; go_must (refine (t_signN ⟨#[102, 97, 108, 115, 101]⟩ [102, 97, 108, 115, 101] rfl HS.out gd2).mono ?_); rintro e wn ⟨rfl, hs, hk⟩; have HS := hid hs; clear hs hk)
  go_upto_region 18 with (go_at_call 35; go_must (refine (t_signN ⟨#[110, 105, 108]⟩ [110, 105, 108] rfl HS.out gd3).mono ?_); rintro e wn ⟨rfl, hs, hk⟩; have HS := hid hs; clear hs hk)
  go_upto_region 22 with (go_at_call 35; go_must (refine (t_signN ⟨#[40]⟩ [40] rfl HS.out gd4).mono ?_); rintro e wn ⟨rfl, hs, hk⟩; have HS := hid hs; clear hs hk)
  go_upto_region 24 with (go_at_call 35; go_must (refine (t_signN ⟨#[102, 117, 110, 99]⟩ [102, 117, 110, 99] rfl HS.out gd5).mono ?_); rintro e wn ⟨rfl, hs, hk⟩; have HS := hid hs; clear hs hk)
  go_upto_region 25 with (go_at_call 17; go_must (refine (t_want ⟨#[91]⟩ [91] rfl HS.out e1).mono ?_); rintro e wn ⟨rfl, hs, hk⟩; have HS := hid hs; clear hs hk)
  go_upto_region 26 with (go_at_call 17; go_must (refine (t_want ⟨#[93]⟩ [93] rfl HS.out e2).mono ?_); rintro e wn ⟨rfl, hs, hk⟩; have HS := hid hs; clear hs hk)
  go_upto_region 27 with (go_at_call 17; go_must (refine (t_want ⟨#[105, 110, 116]⟩ [105, 110, 116] rfl HS.out e3).mono ?_); rintro e wn ⟨rfl, hs, hk⟩; have HS := hid hs; clear hs hk)
  go_wp2_with (go_at_call 17; go_must (refine (t_wantN ⟨#[123]⟩ [123] rfl HS.out xe4).mono ?_); rintro e wn ⟨rfl, hb, hk⟩; unfold stopP; have HB := hid hb; clear hb hk)
  exact ⟨rfl, rfl, HB.out⟩
 cases hu : listF f [125] true [] l.tail.tail.tail.tail with
 | out => exact absurd (by rw [primF]; simp [c1, c2, c3, gd1, gd2, gd3, gd4, gd5, e1, e2, e3, e4, hu, want, Pr.bind]) hne
 | bad =>
  have hnu : listF f [125] true [] l.tail.tail.tail.tail ≠ .out := by rw [hu]; intro e; cases e
  have hr : primF (f + 1) l = .bad := by rw [primF]; simp [c1, c2, c3, gd1, gd2, gd3, gd4, gd5, e1, e2, e3, e4, hu, want, nmM, nd, Pr.bind]
  rw [hr]
  clear hr hne
  have HS := hid h
  clear h
  go_enter Try.func77, Try.ntmps77
  go_upto_region 2 with (go_at_call 16; go_must (refine (t_kind HS.out).mono ?_); rintro e wn ⟨rfl, hs, hk⟩; rw [ckk]; have HS := hid hs; clear hs hk)
  go_upto_region 14 with (go_at_call 35; go_must (refine (t_signN ⟨#[116, 114, 117, 101]⟩ [116, 114, 117, 101] rfl HS.out gd1).mono ?_); rintro e wn ⟨rfl, hs, hk⟩; have HS := hid hs; clear hs hk)
  go_upto_region 16 with (go_at_call 35; go_must (refine (t_signN ⟨#[102, 97, 108, 115, 101]⟩ [102, 97, 108, 115, 101] rfl HS.out gd2).mono ?_); rintro e wn ⟨rfl, hs, hk⟩; have HS := hid hs; clear hs hk)
  go_upto_region 18 with (go_at_call 35; go_must (refine (t_signN ⟨#[110, 105, 108]⟩ [110, 105, 108] rfl HS.out gd3).mono ?_); rintro e wn ⟨rfl, hs, hk⟩; have HS := hid hs; clear hs hk)
  go_upto_region 22 with (go_at_call 35; go_must (refine (t_signN ⟨#[40]⟩ [40] rfl HS.out gd4).mono ?_); rintro e wn ⟨rfl, hs, hk⟩; have HS := hid hs; clear hs hk)
  go_upto_region 24 with (go_at_call 35; go_must (refine (t_signN ⟨#[102, 117, 110, 99]⟩ [102, 117, 110, 99] rfl HS.out gd5).mono ?_); rintro e wn ⟨rfl, hs, hk⟩; have HS := hid hs; clear hs hk)
  go_upto_region 25 with (go_at_call 17; go_must (refine (t_want ⟨#[91]⟩ [91] rfl HS.out e1).mono ?_); rintro e wn ⟨rfl, hs, hk⟩; have HS := hid hs; clear hs hk)
  go_upto_region 26 with (go_at_call 17; go_must (refine (t_want ⟨#[93]⟩ [93] rfl HS.out e2).mono ?_); rintro e wn ⟨rfl, hs, hk⟩; have HS := hid hs; clear hs hk)
  go_upto_region 27 with (go_at_call 17; go_must (refine (t_want ⟨#[105, 110, 116]⟩ [105, 110, 116] rfl HS.out e3).mono ?_); rintro e wn ⟨rfl, hs, hk⟩; have HS := hid hs; clear hs hk)
  go_upto_region 28 with (go_at_call 17; go_must (refine (t_want ⟨#[123]⟩ [123] rfl HS.out e4).mono ?_); rintro e wn ⟨rfl, hs, hk⟩; have HS := hid hs; clear hs hk)
  go_wp2_with (go_at_call 78; go_must (refine ((H.list (ts := []) (ks := []) ⟨#[125]⟩ [125] rfl HS.out hnu).mono fun _ _ x => ResL.bad x hu).mono ?_); rintro e wn ⟨rfl, hb⟩; unfold stopP; have HB := hid hb; clear hb)
  exact ⟨rfl, rfl, HB.out⟩
 | ok ks r =>
  have hnu : listF f [125] true [] l.tail.tail.tail.tail ≠ .out := by rw [hu]; intro e; cases e
  have hr : primF (f + 1) l = .ok (nd 32 ks) r := by rw [primF]; simp [c1, c2, c3, gd1, gd2, gd3, gd4, gd5, e1, e2, e3, e4, hu, want, nmM, nd, Pr.bind]
  rw [hr]
  clear hr hne
  have HS := hid h
  clear h
  go_enter Try.func77, Try.ntmps77
  go_upto_region 2 with (go_at_call 16; go_must (refine (t_kind HS.out).mono ?_); rintro e wn ⟨rfl, hs, hk⟩; rw [ckk]; have HS := hid hs; clear hs hk)
  go_upto_region 14 with (go_at_call 35; go_must (refine (t_signN ⟨#[116, 114, 117, 101]⟩ [116, 114, 117, 101] rfl HS.out gd1).mono ?_); rintro e wn ⟨rfl, hs, hk⟩; have HS := hid hs; clear hs hk)
  go_upto_region 16 with (go_at_call 35; go_must (refine (t_signN ⟨#[102, 97, 108, 115, 101]⟩ [102, 97, 108, 115, 101] rfl HS.out gd2).mono ?_); rintro e wn ⟨rfl, hs, hk⟩; have HS := hid hs; clear hs hk)
  go_upto_region 18 with (go_at_call 35; go_must (refine (t_signN ⟨#[110, 105, 108]⟩ [110, 105, 108] rfl HS.out gd3).mono ?_); rintro e wn ⟨rfl, hs, hk⟩; have HS := hid hs; clear hs hk)
  go_upto_region 22 with (go_at_call 35; go_must (refine (t_signN ⟨#[40]⟩ [40] rfl HS.out gd4).mono ?_); rintro e wn ⟨rfl, hs, hk⟩; have HS := hid hs; clear hs hk)
  go_upto_region 24 with (go_at_call 35; go_must (refine (t_signN ⟨#[102, 117, 110, 99]⟩ [102, 117, 110, 99] rfl HS.out gd5).mono ?_); rintro e wn ⟨rfl, hs, hk⟩; have HS := hid hs; clear hs hk)
  go_upto_region 25 with (go_at_call 17; go_must (refine (t_want ⟨#[91]⟩ [91] rfl HS.out e1).mono ?_); rintro e wn ⟨rfl, hs, hk⟩; have HS := hid hs; clear hs hk)
  go_upto_region 26 with (go_at_call 17; go_must (refine (t_want ⟨#[93]⟩ [93] rfl HS.out e2).mono ?_); rintro e wn ⟨rfl, hs, hk⟩; have HS := hid hs; clear hs hk)
  go_upto_region 27 with (go_at_call 17; go_must (refine (t_want ⟨#[105, 110, 116]⟩ [105, 110, 116] rfl HS.out e3).mono ?_); rintro e wn ⟨rfl, hs, hk⟩; have HS := hid hs; clear hs hk)
  go_upto_region 28 with (go_at_call 17; go_must (refine (t_want ⟨#[123]⟩ [123] rfl HS.out e4).mono ?_); rintro e wn ⟨rfl, hs, hk⟩; have HS := hid hs; clear hs hk)
  go_wp2_with first | (go_at_call 78; go_must (refine ((H.list (ts := []) (ks := []) ⟨#[125]⟩ [125] rfl HS.out hnu).mono fun _ _ x => ResL.ok x hu).mono ?_); rintro e wn ⟨A, ca, rfl, hs⟩; have HS := hid hs; clear hs) | (go_at_call 21; go_must (refine (t_put (ts := []) (us := ks) 32 noB noB 0 (by unfold okI; omega) (by decide) (by decide) (okI0) HS.out).mono ?_); rintro e wn ⟨q, rfl, hqq, hs, hk⟩; have HQq := hid hqq; clear hqq; have HS := hid hs; clear hs hk)
  go_ret
  exact ⟨q, rfl, HQq.out, StT.weak HS.out (by omega)⟩

theorem unary_ok (f : Nat) (H : Ctr f) : C1 1 72 (unaryF (f + 1)) := by
 refine base1 fun {w rp L l P Na s} h hne => ?_
 have HS := hid h
 have HNE := hid hne
 clear h hne
 go_enter Try.func72, Try.ntmps72
 go_wp2_with fail
 go_loopw [4, 8] (fun _ i wr => ∃ k : Nat, i = .int .i64 (k : Int) ∧ k ≤ 3 ∧ (1 ≤ k → isSign [45] l = false) ∧ (2 ≤ k → isSign [33] l = false) ∧ (3 ≤ k → isSign [42] l = false) ∧ StT w rp L l P Na [] s nilV [] wr) (fun _ i _ => 3 - (intOf i).toNat)
 case atStart => exact ⟨0, rfl, by omega, fun h => by omega, fun h => by omega, fun h => by omega, HS.out⟩
 case round =>
  obtain ⟨k, rfl, hk, g1, g2, g3, hs⟩ := hrel
  have HS := hid hs
  clear hs
  obtain rfl | rfl | rfl | rfl : k = 0 ∨ k = 1 ∨ k = 2 ∨ k = 3 := by omega
  ·clear g1 g2 g3 hk
   by_cases c : isSign [45] l = true
   ·have hf : firstOf unOps l = some [45] := by simp [firstOf, unOps, c]
    have hne := HNE.out
    clear HNE
    cases hu : unaryF f l.tail with
    | out => exact absurd (by rw [unaryF, hf]; simp [hu, Pr.bind]) hne
    | bad =>
     have hnu : unaryF f l.tail ≠ .out := by rw [hu]; intro e; cases e
     have hr : unaryF (f + 1) l = .bad := by rw [unaryF, hf]; simp [hu, Pr.bind]
     rw [hr]
     clear hr hne
     go_wp2_with first | (go_at_call 35; go_must (refine (t_sign ⟨#[45]⟩ [45] rfl HS.out c).mono ?_); rintro e wn ⟨rfl, hs, hk⟩; have HS := hid hs; clear hs hk) | (go_at_call 72; go_must (refine ((H.unary HS.out hnu).mono fun _ _ x => Res.bad x hu).mono ?_); rintro e wn ⟨rfl, hb⟩; unfold stopP; have HB := hid hb; clear hb)
     exact ⟨rfl, rfl, HB.out⟩
    | ok a r =>
     have hnu : unaryF f l.tail ≠ .out := by rw [hu]; intro e; cases e
     have hr : unaryF (f + 1) l = .ok (.node 26 (sB [45]) noB 0 [a]) r := by rw [unaryF, hf]; simp [hu, Pr.bind]
     rw [hr]
     clear hr hne
     go_wp2_with first | (go_at_call 35; go_must (refine (t_sign ⟨#[45]⟩ [45] rfl HS.out c).mono ?_); rintro e wn ⟨rfl, hs, hk⟩; have HS := hid hs; clear hs hk) | (go_at_call 72; go_must (refine ((H.unary HS.out hnu).mono fun _ _ x => Res.ok x hu).mono ?_); rintro e wn ⟨q, rfl, hqq, hs⟩; have HQq := hid hqq; clear hqq; have HS := hid hs; clear hs) | (go_at_call 21; go_must (refine (t_put (ts := []) (us := [a]) 26 (sB [45]) noB 0 (by unfold okI; omega) (by decide) (by decide) (okI0) (lit1 HS.out HQq.out)).mono ?_); rintro e wn ⟨q9, rfl, hqq9, hs, hk⟩; have HQq9 := hid hqq9; clear hqq9; have HS := hid hs; clear hs hk)
     go_ret
     exact ⟨q9, rfl, HQq9.out, StT.weak HS.out (by omega)⟩
   ·have g := eq_false_of_ne_true c
    clear c
    go_wp2_with (go_at_call 35; go_must (refine (t_signN ⟨#[45]⟩ [45] rfl HS.out g).mono ?_); rintro e wn ⟨rfl, hs, hk⟩; have HS := hid hs; clear hs hk)
    exact ⟨⟨1, rfl, by omega, fun _ => g, fun h => by omega, fun h => by omega, HS.out⟩, by simp only [intOf]; omega⟩
  ·have f1 := g1 (by omega)
   clear g1 g2 g3 hk
   by_cases c : isSign [33] l = true
   ·have hf : firstOf unOps l = some [33] := by simp [firstOf, unOps, f1, c]
    have hne := HNE.out
    clear HNE
    cases hu : unaryF f l.tail with
    | out => exact absurd (by rw [unaryF, hf]; simp [hu, Pr.bind]) hne
    | bad =>
     have hnu : unaryF f l.tail ≠ .out := by rw [hu]; intro e; cases e
     have hr : unaryF (f + 1) l = .bad := by rw [unaryF, hf]; simp [hu, Pr.bind]
     rw [hr]
     clear hr hne
     go_wp2_with first | (go_at_call 35; go_must (refine (t_sign ⟨#[33]⟩ [33] rfl HS.out c).mono ?_); rintro e wn ⟨rfl, hs, hk⟩; have HS := hid hs; clear hs hk) | (go_at_call 72; go_must (refine ((H.unary HS.out hnu).mono fun _ _ x => Res.bad x hu).mono ?_); rintro e wn ⟨rfl, hb⟩; unfold stopP; have HB := hid hb; clear hb)
     exact ⟨rfl, rfl, HB.out⟩
    | ok a r =>
     have hnu : unaryF f l.tail ≠ .out := by rw [hu]; intro e; cases e
     have hr : unaryF (f + 1) l = .ok (.node 26 (sB [33]) noB 0 [a]) r := by rw [unaryF, hf]; simp [hu, Pr.bind]
     rw [hr]
     clear hr hne
     go_wp2_with first | (go_at_call 35; go_must (refine (t_sign ⟨#[33]⟩ [33] rfl HS.out c).mono ?_); rintro e wn ⟨rfl, hs, hk⟩; have HS := hid hs; clear hs hk) | (go_at_call 72; go_must (refine ((H.unary HS.out hnu).mono fun _ _ x => Res.ok x hu).mono ?_); rintro e wn ⟨q, rfl, hqq, hs⟩; have HQq := hid hqq; clear hqq; have HS := hid hs; clear hs) | (go_at_call 21; go_must (refine (t_put (ts := []) (us := [a]) 26 (sB [33]) noB 0 (by unfold okI; omega) (by decide) (by decide) (okI0) (lit1 HS.out HQq.out)).mono ?_); rintro e wn ⟨q9, rfl, hqq9, hs, hk⟩; have HQq9 := hid hqq9; clear hqq9; have HS := hid hs; clear hs hk)
     go_ret
     exact ⟨q9, rfl, HQq9.out, StT.weak HS.out (by omega)⟩
   ·have g := eq_false_of_ne_true c
    clear c
    go_wp2_with (go_at_call 35; go_must (refine (t_signN ⟨#[33]⟩ [33] rfl HS.out g).mono ?_); rintro e wn ⟨rfl, hs, hk⟩; have HS := hid hs; clear hs hk)
    exact ⟨⟨2, rfl, by omega, fun _ => f1, fun _ => g, fun h => by omega, HS.out⟩, by simp only [intOf]; omega⟩
  ·have f1 := g1 (by omega)
   have f2 := g2 (by omega)
   clear g1 g2 g3 hk
   by_cases c : isSign [42] l = true
   ·have hf : firstOf unOps l = some [42] := by simp [firstOf, unOps, f1, f2, c]
    have hne := HNE.out
    clear HNE
    cases hu : unaryF f l.tail with
    | out => exact absurd (by rw [unaryF, hf]; simp [hu, Pr.bind]) hne
    | bad =>
     have hnu : unaryF f l.tail ≠ .out := by rw [hu]; intro e; cases e
     have hr : unaryF (f + 1) l = .bad := by rw [unaryF, hf]; simp [hu, Pr.bind]
     rw [hr]
     clear hr hne
     go_wp2_with first | (go_at_call 35; go_must (refine (t_sign ⟨#[42]⟩ [42] rfl HS.out c).mono ?_); rintro e wn ⟨rfl, hs, hk⟩; have HS := hid hs; clear hs hk) | (go_at_call 72; go_must (refine ((H.unary HS.out hnu).mono fun _ _ x => Res.bad x hu).mono ?_); rintro e wn ⟨rfl, hb⟩; unfold stopP; have HB := hid hb; clear hb)
     exact ⟨rfl, rfl, HB.out⟩
    | ok a r =>
     have hnu : unaryF f l.tail ≠ .out := by rw [hu]; intro e; cases e
     have hr : unaryF (f + 1) l = .ok (.node 26 (sB [42]) noB 0 [a]) r := by rw [unaryF, hf]; simp [hu, Pr.bind]
     rw [hr]
     clear hr hne
     go_wp2_with first | (go_at_call 35; go_must (refine (t_sign ⟨#[42]⟩ [42] rfl HS.out c).mono ?_); rintro e wn ⟨rfl, hs, hk⟩; have HS := hid hs; clear hs hk) | (go_at_call 72; go_must (refine ((H.unary HS.out hnu).mono fun _ _ x => Res.ok x hu).mono ?_); rintro e wn ⟨q, rfl, hqq, hs⟩; have HQq := hid hqq; clear hqq; have HS := hid hs; clear hs) | (go_at_call 21; go_must (refine (t_put (ts := []) (us := [a]) 26 (sB [42]) noB 0 (by unfold okI; omega) (by decide) (by decide) (okI0) (lit1 HS.out HQq.out)).mono ?_); rintro e wn ⟨q9, rfl, hqq9, hs, hk⟩; have HQq9 := hid hqq9; clear hqq9; have HS := hid hs; clear hs hk)
     go_ret
     exact ⟨q9, rfl, HQq9.out, StT.weak HS.out (by omega)⟩
   ·have g := eq_false_of_ne_true c
    clear c
    go_wp2_with (go_at_call 35; go_must (refine (t_signN ⟨#[42]⟩ [42] rfl HS.out g).mono ?_); rintro e wn ⟨rfl, hs, hk⟩; have HS := hid hs; clear hs hk)
    exact ⟨⟨3, rfl, by omega, fun _ => f1, fun _ => f2, fun _ => g, HS.out⟩, by simp only [intOf]; omega⟩
  ·have f1 := g1 (by omega)
   have f2 := g2 (by omega)
   have f3 := g3 (by omega)
   clear g1 g2 g3 hk
   have hf : firstOf unOps l = none := by simp [firstOf, unOps, f1, f2, f3]
   have hne := HNE.out
   clear HNE f1 f2 f3
   by_cases c : isSign [38] l = true
   ·by_cases c1 : kindOf l.tail = 1
    ·have hr : unaryF (f + 1) l = .ok (.node 26 (sB [38]) noB 0 [.node 25 (textOf l.tail) noB 0 []]) l.tail.tail := by rw [unaryF, hf]; simp [c, c1, nmM, Pr.bind]
     have HR := hid hr
     clear hr
     go_upto_region 9 with (go_at_call 35; go_must (refine (t_sign ⟨#[38]⟩ [38] rfl HS.out c).mono ?_); rintro e wn ⟨rfl, hs, hk⟩; have HS := hid hs; clear hs hk)
     have htx := HS.out.text_ok
     go_upto_region 10 with first | (go_at_call 18; go_must (refine (t_name HS.out c1).mono ?_); rintro e wn ⟨rfl, hs, hk⟩; have HS := hid hs; clear hs hk) | (go_at_call 21; go_must (refine (t_put (ts := []) (us := []) 25 (textOf l.tail) noB 0 (by unfold okI; omega) (htx) (by decide) (okI0) HS.out).mono ?_); rintro e wn ⟨q, rfl, hqq, hs, hk⟩; have HQq := hid hqq; clear hqq; have HS := hid hs; clear hs hk)
     go_wp2_with (go_at_call 21; go_must (refine (t_put (ts := []) (us := [.node 25 (textOf l.tail) noB 0 []]) 26 (sB [38]) noB 0 (by unfold okI; omega) (by decide) (by decide) (okI0) (lit1 HS.out HQq.out)).mono ?_); rintro e wn ⟨q9, rfl, hqq9, hs, hk⟩; have HQq9 := hid hqq9; clear hqq9; have HS := hid hs; clear hs hk)
     go_ret
     rw [HR.out]
     exact ⟨q9, rfl, HQq9.out, StT.weak HS.out (by omega)⟩
    ·have hr : unaryF (f + 1) l = .bad := by rw [unaryF, hf]; simp [c, c1, nmM, Pr.bind]
     have HR := hid hr
     clear hr
     go_wp2_with first | (go_at_call 35; go_must (refine (t_sign ⟨#[38]⟩ [38] rfl HS.out c).mono ?_); rintro e wn ⟨rfl, hs, hk⟩; have HS := hid hs; clear hs hk) | (go_at_call 18; go_must (refine (t_nameN HS.out c1).mono ?_); rintro e wn ⟨rfl, hb, hk⟩; unfold stopP; have HB := hid hb; clear hb hk)
     rw [HR.out]
     exact ⟨rfl, rfl, HB.out⟩
   ·have g := eq_false_of_ne_true c
    clear c
    cases hu : primF f l with
    | out => exact absurd (by rw [unaryF, hf]; simp [g, hu, Pr.bind]) hne
    | bad =>
     have hnu : primF f l ≠ .out := by rw [hu]; intro e; cases e
     have hr : unaryF (f + 1) l = .bad := by rw [unaryF, hf]; simp [g, hu, Pr.bind]
     have HR := hid hr
     clear hr
     go_upto_region 11 with (go_at_call 35; go_must (refine (t_signN ⟨#[38]⟩ [38] rfl HS.out g).mono ?_); rintro e wn ⟨rfl, hs, hk⟩; have HS := hid hs; clear hs hk)
     go_wp2_with (go_at_call 77; go_must (refine ((H.prim HS.out hnu).mono fun _ _ x => Res.bad x hu).mono ?_); rintro e wn ⟨rfl, hb⟩; unfold stopP; have HB := hid hb; clear hb)
     rw [HR.out]
     exact ⟨rfl, rfl, HB.out⟩
    | ok a r =>
     have hnu : primF f l ≠ .out := by rw [hu]; intro e; cases e
     have e1 : unaryF (f + 1) l = behF f a r := by rw [unaryF, hf]; simp [g, hu, Pr.bind]
     rw [e1] at hne
     have HR := hid e1
     clear e1
     cases hv : behF f a r with
     | out => exact absurd hv hne
     | bad =>
      go_upto_region 11 with (go_at_call 35; go_must (refine (t_signN ⟨#[38]⟩ [38] rfl HS.out g).mono ?_); rintro e wn ⟨rfl, hs, hk⟩; have HS := hid hs; clear hs hk)
      go_wp2_with first | (go_at_call 77; go_must (refine ((H.prim HS.out hnu).mono fun _ _ x => Res.ok x hu).mono ?_); rintro e wn ⟨q, rfl, hqq, hs⟩; have HQq := hid hqq; clear hqq; have HS := hid hs; clear hs) | (go_at_call 76; go_must (refine ((H.beh (ts := []) HS.out HQq.out hne).mono fun _ _ x => Res.bad x hv).mono ?_); rintro e wn ⟨rfl, hb⟩; unfold stopP; have HB := hid hb; clear hb)
      rw [show _ = _ from HR.out.trans hv]
      exact ⟨rfl, rfl, HB.out⟩
     | ok b r2 =>
      go_upto_region 11 with (go_at_call 35; go_must (refine (t_signN ⟨#[38]⟩ [38] rfl HS.out g).mono ?_); rintro e wn ⟨rfl, hs, hk⟩; have HS := hid hs; clear hs hk)
      go_wp2_with first | (go_at_call 77; go_must (refine ((H.prim HS.out hnu).mono fun _ _ x => Res.ok x hu).mono ?_); rintro e wn ⟨q, rfl, hqq, hs⟩; have HQq := hid hqq; clear hqq; have HS := hid hs; clear hs) | (go_at_call 76; go_must (refine ((H.beh (ts := []) HS.out HQq.out hne).mono fun _ _ x => Res.ok x hv).mono ?_); rintro e wn ⟨q9, rfl, hqq9, hs⟩; have HQq9 := hid hqq9; clear hqq9; have HS := hid hs; clear hs)
      go_ret
      rw [show _ = _ from HR.out.trans hv]
      exact ⟨q9, rfl, HQq9.out, StT.weak HS.out (by omega)⟩

theorem expr_ok (f : Nat) (H : ∀ g, g ≤ f → Ctr g) : CE 61 (exprF (f + 1)) := by
 refine baseE fun {w rp L l P Na s} n hn h hne => ?_
 have HS := hid h
 clear h
 cases hu : unaryF f l with
 | out => exact absurd (by rw [exprF]; simp [hu, Pr.bind]) hne
 | bad =>
  have hnu : unaryF f l ≠ .out := by rw [hu]; intro e; cases e
  have hr : exprF (f + 1) n l = .bad := by rw [exprF]; simp [hu, Pr.bind]
  rw [hr]
  clear hr hne
  go_enter Try.func61, Try.ntmps61
  go_wp2_with (go_at_call 72; go_must (refine (((H f (Nat.le_refl _)).unary HS.out hnu).mono fun _ _ x => Res.bad x hu).mono ?_); rintro e wn ⟨rfl, hb⟩; unfold stopP; have HB := hid hb; clear hb)
  exact ⟨rfl, rfl, HB.out⟩
 | ok a r =>
  have hnu : unaryF f l ≠ .out := by rw [hu]; intro e; cases e
  have hr : loopF f n a r = exprF (f + 1) n l := by rw [exprF]; simp [hu, Pr.bind]
  generalize exprF (f + 1) n l = R at hr hne ⊢
  have HR := hid hr
  have HNE := hid hne
  clear hr hne
  go_enter Try.func61, Try.ntmps61
  go_upto_region 2 with (go_at_call 72; go_must (refine (((H f (Nat.le_refl _)).unary HS.out hnu).mono fun _ _ x => Res.ok x hu).mono ?_); rintro e wn ⟨q, rfl, hqq, hs⟩; have HQq := hid hqq; clear hqq; have HS := hid hs; clear hs)
  clear hu hnu
  go_loopw [5, 6, 7, 8] (fun kv _ _ _ wr => ∃ (g : Nat) (t : T) (l' : List Tk) (q : Nat), g ≤ f ∧ loopF g n t l' = R ∧ kv = .int .i64 (q : Int) ∧ rootT (P.length + sizeL []) t = q ∧ StT w rp L l' P Na [t] (s + 1) nilV [] wr) (fun _ _ _ _ wr => L.length - atOf wr rp)
  case atStart => exact ⟨f, a, r, q, Nat.le_refl _, HR.out, rfl, HQq.out, StT.weak HS.out (by omega)⟩
  case round =>
   clear HR HS HQq
   obtain ⟨g, t, l', q, hg, hr, rfl, hq, hs⟩ := hrel
   have HS := hid hs
   have HQq := hid hq
   have HAT := hid hs.at_
   clear hs hq
   cases g with
   | zero => exact absurd (by rw [← hr, loopF]) HNE.out
   | succ g =>
    rw [loopF] at hr
    by_cases c : kindOf l' = 4
    rotate_left
    ·have hb : binop n l' = none := by unfold binop; rw [if_neg c]
     rw [hb] at hr
     have HR := hid hr
     obtain ⟨kk, ckk⟩ : ∃ kk, kindOf l' = kk := ⟨_, rfl⟩
     have k1 : (kk == 4) = false := by rw [beq_eq_false_iff_ne]; rw [← ckk]; exact c
     clear hr hb c
     go_wp2_with (go_at_call 16; go_must (refine (t_kind HS.out).mono ?_); rintro e wn ⟨rfl, hs, hk⟩; rw [ckk]; have HS := hid hs; clear hs hk)
     go_ret
     rw [← HR.out]
     exact ⟨q, rfl, HQq.out, HS.out⟩
    obtain ⟨lv, hlv⟩ : ∃ lv, level (textOf l').data.toList = lv := ⟨_, rfl⟩
    have hle := level_le (textOf l').data.toList
    rw [hlv] at hle
    by_cases d : lv < n
    ·have hb : binop n l' = none := by unfold binop; rw [if_pos c, hlv, if_pos (.inl d)]
     have i1 : (lv : Int) < (n : Int) := by omega
     rw [hb] at hr
     have HR := hid hr
     clear hr hb
     go_wp2_with first | (go_at_call 16; go_must (refine (t_kind HS.out).mono ?_); rintro e wn ⟨rfl, hs, hk⟩; rw [c]; have HS := hid hs; clear hs hk) | (go_at_call 47; go_must (refine (t_text HS.out).mono ?_); rintro e wn ⟨rfl, hs, hk⟩; have HS := hid hs; clear hs hk) | (go_at_call 56; go_must (refine (level_any _ (textOf l')).mono ?_); rintro e wn ⟨rfl, hk⟩; rw [hlv]; have HS := hid (HS.out.kp hk); clear hk)
     go_ret
     rw [← HR.out]
     exact ⟨q, rfl, HQq.out, HS.out⟩
    by_cases d2 : lv = 0
    ·have hb : binop n l' = none := by unfold binop; rw [if_pos c, hlv, if_pos (.inr d2)]
     subst d2
     have i1 : ¬ (((0 : Nat) : Int)) < (n : Int) := by omega
     have i0 : ¬ (0 : Int) < (n : Int) := by omega
     rw [hb] at hr
     have HR := hid hr
     clear hr hb
     go_wp2_with first | (go_at_call 16; go_must (refine (t_kind HS.out).mono ?_); rintro e wn ⟨rfl, hs, hk⟩; rw [c]; have HS := hid hs; clear hs hk) | (go_at_call 47; go_must (refine (t_text HS.out).mono ?_); rintro e wn ⟨rfl, hs, hk⟩; have HS := hid hs; clear hs hk) | (go_at_call 56; go_must (refine (level_any _ (textOf l')).mono ?_); rintro e wn ⟨rfl, hk⟩; rw [hlv]; have HS := hid (HS.out.kp hk); clear hk)
     go_ret
     rw [← HR.out]
     exact ⟨q, rfl, HQq.out, HS.out⟩
    have hb : binop n l' = some (textOf l', lv) := by unfold binop; rw [if_pos c, hlv, if_neg (by omega)]
    rw [hb] at hr
    simp only at hr
    have i1 : ¬ (lv : Int) < (n : Int) := by omega
    have i2 : ((lv : Int) == 0) = false := by rw [beq_eq_false_iff_ne]; omega
    have i3 : IntKind.i64.wrap ((lv : Int) + 1) = ((lv + 1 : Nat) : Int) := by rw [IntKind.wrap_i64]; omega
    have htx := HS.out.text_ok
    have hl0 := kind_ne c (by decide)
    have hlt := kind_pos c (by decide)
    clear hb d d2
    cases hu : exprF g (lv + 1) l'.tail with
    | out => exact absurd (by rw [← hr, hu] <;> rfl) HNE.out
    | bad =>
     have hnu : exprF g (lv + 1) l'.tail ≠ .out := by rw [hu]; intro e; cases e
     rw [hu] at hr
     have HR := hid hr
     clear hr
     go_upto_region 7 with first | (go_at_call 16; go_must (refine (t_kind HS.out).mono ?_); rintro e wn ⟨rfl, hs, hk⟩; rw [c]; have HS := hid hs; clear hs hk) | (go_at_call 47; go_must (refine (t_text HS.out).mono ?_); rintro e wn ⟨rfl, hs, hk⟩; have HS := hid hs; clear hs hk) | (go_at_call 56; go_must (refine (level_any _ (textOf l')).mono ?_); rintro e wn ⟨rfl, hk⟩; rw [hlv]; have HS := hid (HS.out.kp hk); clear hk; have hs := HS.out; have hs := StT.pass hs hl0; obtain ⟨n, n1, p1, p2, p3, p4, p5⟩ := hs; have HP4 := hid p4; clear p4 p5; )
     have HS := hid (HP4.out)
     clear HP4 p1 p2 p3 i1 i2
     generalize World.setCell _ _ _ = W2 at HS ⊢
     go_wp2_with (go_at_call 61; go_must (refine (((H g (by omega)).expr (lv + 1) (by omega) HS.out hnu).mono fun _ _ x => Res.bad x hu).mono ?_); rintro e wn ⟨rfl, hb⟩; unfold stopP; have HB := hid hb; clear hb)
     rw [← HR.out]
     exact ⟨rfl, rfl, HB.out⟩
    | ok m r2 =>
     have hnu : exprF g (lv + 1) l'.tail ≠ .out := by rw [hu]; intro e; cases e
     rw [hu] at hr
     have HR := hid hr
     have hlt2 := expr_lt hu
     clear hr
     go_upto_region 7 with first | (go_at_call 16; go_must (refine (t_kind HS.out).mono ?_); rintro e wn ⟨rfl, hs, hk⟩; rw [c]; have HS := hid hs; clear hs hk) | (go_at_call 47; go_must (refine (t_text HS.out).mono ?_); rintro e wn ⟨rfl, hs, hk⟩; have HS := hid hs; clear hs hk) | (go_at_call 56; go_must (refine (level_any _ (textOf l')).mono ?_); rintro e wn ⟨rfl, hk⟩; rw [hlv]; have HS := hid (HS.out.kp hk); clear hk; have hs := HS.out; have hs := StT.pass hs hl0; obtain ⟨n, n1, p1, p2, p3, p4, p5⟩ := hs; have HP4 := hid p4; clear p4 p5; )
     have HS := hid (HP4.out)
     clear HP4 p1 p2 p3 i1 i2
     generalize World.setCell _ _ _ = W2 at HS ⊢
     go_wp2_with first | (go_at_call 61; go_must (refine (((H g (by omega)).expr (lv + 1) (by omega) HS.out hnu).mono fun _ _ x => Res.ok x hu).mono ?_); rintro e wn ⟨q2, rfl, hqq2, hs⟩; have HQq2 := hid hqq2; clear hqq2; have HS := hid hs; clear hs) | (go_at_call 21; go_must (refine (t_put (ts := []) (us := [t, m]) 27 (textOf l') noB 0 (by unfold okI; omega) (htx) (by decide) (okI0) (lit2 (ts := []) HS.out HQq.out HQq2.out)).mono ?_); rintro e wn ⟨q9, rfl, hqq9, hs, hk⟩; have HQq9 := hid hqq9; clear hqq9; have HS := hid hs; clear hs hk)
     exact ⟨⟨g, _, r2, q9, by omega, HR.out, rfl, HQq9.out, StT.weak HS.out (by omega)⟩, by rw [HAT.out, HS.out.at_]; omega⟩

theorem list_ok (f : Nat) (H : ∀ g, g ≤ f → Ctr g) : CL 78 (listF (f + 1)) := by
 intro w0 w rp L l ps na ts ks s kv S b hS h hne
 have HS := hid h
 clear h
 generalize hR : listF (f + 1) b true ks l = R at hne ⊢
 have HR := hid hR
 have HNE := hid hne
 clear hR hne
 obtain ⟨A0, c0, rfl⟩ : ∃ A c, kv = .slice A ks.length c := by obtain ⟨nw, hh⟩ := HS.out; have := own_form hh.kd.own; rw [rootsL_len] at this; exact this
 go_enter Try.func78, Try.ntmps78
 go_wp2_with fail
 go_loopw [2, 7] (fun kv fb wr => ∃ (g : Nat) (x : Bool) (us : List T) (l' : List Tk) (A : Option Addr) (c : Nat), g ≤ f + 1 ∧ listF g b x us l' = R ∧ kv = .slice A us.length c ∧ fb = .bool x ∧ StT w0 rp L l' ps na (ts ++ us) s (.slice A us.length c) (rootsL (ps.length + sizeL ts) us) wr) (fun _ _ wr => L.length - atOf wr rp)
 case atStart => exact ⟨f + 1, true, ks, l, A0, c0, Nat.le_refl _, HR.out, rfl, rfl, HS.out⟩
 case round =>
  clear HR HS
  obtain ⟨g, x, us, l', A, c, hg, hr, rfl, rfl, hs⟩ := hrel
  have HS := hid hs
  have HAT := hid hs.at_
  clear hs
  cases g with
  | zero => exact absurd (by rw [← hr, listF]) HNE.out
  | succ g =>
   rw [listF] at hr
   by_cases d : isSign b l' = true
   ·rw [if_pos d] at hr
    have HR := hid hr
    clear hr
    go_wp2_with (go_at_call 35; go_must (refine (t_sign S b hS HS.out d).mono ?_); rintro e wn ⟨rfl, hs, hk⟩; have HS := hid hs; clear hs hk)
    go_ret
    rw [← HR.out]
    exact ⟨A, c, rfl, StT.weak HS.out (by omega)⟩
   have e := eq_false_of_ne_true d
   rw [if_neg d] at hr
   clear d
   cases x with
   | true =>
    rw [if_pos rfl] at hr
    simp only [Pr.bind] at hr
    cases hu : exprF g 1 l' with
    | out => exact absurd (by rw [← hr, hu] <;> rfl) HNE.out
    | bad =>
     have hnu : exprF g 1 l' ≠ .out := by rw [hu]; intro e; cases e
     rw [hu] at hr
     have HR := hid hr
     clear hr
     go_upto_region 6 with (go_at_call 35; go_must (refine (t_signN S b hS HS.out e).mono ?_); rintro e wn ⟨rfl, hs, hk⟩; have HS := hid hs; clear hs hk)
     go_wp2_with (go_at_call 61; go_must (refine (((H g (by omega)).expr 1 (by omega) HS.out hnu).mono fun _ _ x => Res.bad x hu).mono ?_); rintro e wn ⟨rfl, hb⟩; unfold stopP; have HB := hid hb; clear hb)
     rw [← HR.out]
     exact ⟨rfl, rfl, HB.out⟩
    | ok a r2 =>
     have hnu : exprF g 1 l' ≠ .out := by rw [hu]; intro e; cases e
     rw [hu] at hr
     have HR := hid hr
     have hlt := expr_lt hu
     clear hr
     go_upto_region 6 with (go_at_call 35; go_must (refine (t_signN S b hS HS.out e).mono ?_); rintro e wn ⟨rfl, hs, hk⟩; have HS := hid hs; clear hs hk)
     go_wp2_with first | (go_at_call 61; go_must (refine (((H g (by omega)).expr 1 (by omega) HS.out hnu).mono fun _ _ x => Res.ok x hu).mono ?_); rintro e wn ⟨q, rfl, hqq, hs⟩; have HQq := hid hqq; clear hqq; have HS := hid hs; clear hs) | (at_builtin; go_must (refine t_app rfl (.tmp 16) (.tmp 19) rfl (us := us) HS.out HQq.out rfl rfl ?_); intro A1 c1 wn hs; have HS := hid hs; clear hs)
     exact ⟨⟨g, false, us ++ [a], r2, A1, c1, by omega, HR.out, by simp, rfl, by rw [List.length_append]; exact StT.weak HS.out (by omega)⟩, by rw [HAT.out, HS.out.at_]; omega⟩
   | false =>
    rw [if_neg (by decide)] at hr
    by_cases d : isSign [44] l' = true
    rotate_left
    ·have d2 := eq_false_of_ne_true d
     have HR := hid (show Pr.bad = R by rw [← hr]; simp [want, d2, Pr.bind])
     clear hr d
     go_upto_region 4 with (go_at_call 35; go_must (refine (t_signN S b hS HS.out e).mono ?_); rintro e wn ⟨rfl, hs, hk⟩; have HS := hid hs; clear hs hk)
     go_wp2_with (go_at_call 17; go_must (refine (t_wantN ⟨#[44]⟩ [44] rfl HS.out d2).mono ?_); rintro e wn ⟨rfl, hb, hk⟩; unfold stopP; have HB := hid hb; clear hb hk)
     rw [← HR.out]
     exact ⟨rfl, rfl, HB.out⟩
    have hlt0 := sign_pos d
    rw [want, if_pos d] at hr
    simp only [Pr.bind] at hr
    cases hu : exprF g 1 l'.tail with
    | out => exact absurd (by rw [← hr, hu] <;> rfl) HNE.out
    | bad =>
     have hnu : exprF g 1 l'.tail ≠ .out := by rw [hu]; intro e; cases e
     rw [hu] at hr
     have HR := hid hr
     clear hr
     go_upto_region 4 with (go_at_call 35; go_must (refine (t_signN S b hS HS.out e).mono ?_); rintro e wn ⟨rfl, hs, hk⟩; have HS := hid hs; clear hs hk)
     go_upto_region 6 with (go_at_call 17; go_must (refine (t_want ⟨#[44]⟩ [44] rfl HS.out d).mono ?_); rintro e wn ⟨rfl, hs, hk⟩; have HS := hid hs; clear hs hk)
     go_wp2_with (go_at_call 61; go_must (refine (((H g (by omega)).expr 1 (by omega) HS.out hnu).mono fun _ _ x => Res.bad x hu).mono ?_); rintro e wn ⟨rfl, hb⟩; unfold stopP; have HB := hid hb; clear hb)
     rw [← HR.out]
     exact ⟨rfl, rfl, HB.out⟩
    | ok a r2 =>
     have hnu : exprF g 1 l'.tail ≠ .out := by rw [hu]; intro e; cases e
     rw [hu] at hr
     have HR := hid hr
     have hlt := expr_lt hu
     clear hr
     go_upto_region 4 with (go_at_call 35; go_must (refine (t_signN S b hS HS.out e).mono ?_); rintro e wn ⟨rfl, hs, hk⟩; have HS := hid hs; clear hs hk)
     go_upto_region 6 with (go_at_call 17; go_must (refine (t_want ⟨#[44]⟩ [44] rfl HS.out d).mono ?_); rintro e wn ⟨rfl, hs, hk⟩; have HS := hid hs; clear hs hk)
     go_wp2_with first | (go_at_call 61; go_must (refine (((H g (by omega)).expr 1 (by omega) HS.out hnu).mono fun _ _ x => Res.ok x hu).mono ?_); rintro e wn ⟨q, rfl, hqq, hs⟩; have HQq := hid hqq; clear hqq; have HS := hid hs; clear hs) | (at_builtin; go_must (refine t_app rfl (.tmp 16) (.tmp 19) rfl (us := us) HS.out HQq.out rfl rfl ?_); intro A1 c1 wn hs; have HS := hid hs; clear hs)
     exact ⟨⟨g, false, us ++ [a], r2, A1, c1, by omega, HR.out, by simp, rfl, by rw [List.length_append]; exact StT.weak HS.out (by omega)⟩, by rw [HAT.out, HS.out.at_]; omega⟩

theorem beh_ok (f : Nat) (H : ∀ g, g ≤ f → Ctr g) : CB 0 76 (behF (f + 1)) := by
 refine baseB fun {w rp L l P Na s a q} h hq hne => ?_
 have HS := hid h
 have HQq := hid hq
 generalize hR : behF (f + 1) a l = R at hne ⊢
 have HR := hid hR
 have HNE := hid hne
 clear h hq hR hne
 go_enter Try.func76, Try.ntmps76
 go_wp2_with fail
 go_loopw [1, 5, 7, 18] (fun kv _ _ _ wr => ∃ (g : Nat) (t : T) (l' : List Tk) (q : Nat), g ≤ f + 1 ∧ behF g t l' = R ∧ kv = .int .i64 (q : Int) ∧ rootT (P.length + sizeL []) t = q ∧ StT w rp L l' P Na [t] s nilV [] wr) (fun _ _ _ _ wr => L.length - atOf wr rp)
 case atStart => exact ⟨f + 1, a, l, q, Nat.le_refl _, HR.out, rfl, HQq.out, HS.out⟩
 case round =>
  clear HR HS HQq
  obtain ⟨g, t, l', q, hg, hr, rfl, hq, hs⟩ := hrel
  have HS := hid hs
  have HQq := hid hq
  have HAT := hid hs.at_
  clear hs hq
  cases g with
  | zero => exact absurd (by rw [← hr, behF]) HNE.out
  | succ g =>
   rw [behF] at hr
   by_cases d : isSign [40] l' = true
   ·rw [if_pos d] at hr
    have hlt := sign_pos d
    cases hu : listF g [41] true [t] l'.tail with
    | out => exact absurd (by rw [← hr, hu] <;> rfl) HNE.out
    | bad =>
     have hnu : listF g [41] true [t] l'.tail ≠ .out := by rw [hu]; intro e; cases e
     rw [hu] at hr
     have HR := hid hr
     clear hr
     go_wp2_with first | (go_at_call 35; go_must (refine (t_sign ⟨#[40]⟩ [40] rfl HS.out d).mono ?_); rintro e wn ⟨rfl, hs, hk⟩; have HS := hid hs; clear hs hk) | (go_at_call 78; go_must (refine (((H g (by omega)).list (ts := []) (ks := [t]) ⟨#[41]⟩ [41] rfl (lit1 (ts := []) HS.out HQq.out) hnu).mono fun _ _ x => ResL.bad x hu).mono ?_); rintro e wn ⟨rfl, hb⟩; unfold stopP; have HB := hid hb; clear hb)
     rw [← HR.out]
     exact ⟨rfl, rfl, HB.out⟩
    | ok ks r =>
     have hnu : listF g [41] true [t] l'.tail ≠ .out := by rw [hu]; intro e; cases e
     rw [hu] at hr
     have HR := hid hr
     have hlt2 := list_lt hu
     clear hr
     go_wp2_with first | (go_at_call 35; go_must (refine (t_sign ⟨#[40]⟩ [40] rfl HS.out d).mono ?_); rintro e wn ⟨rfl, hs, hk⟩; have HS := hid hs; clear hs hk) | (go_at_call 78; go_must (refine (((H g (by omega)).list (ts := []) (ks := [t]) ⟨#[41]⟩ [41] rfl (lit1 (ts := []) HS.out HQq.out) hnu).mono fun _ _ x => ResL.ok x hu).mono ?_); rintro e wn ⟨A, ca, rfl, hs⟩; have HS := hid hs; clear hs) | (go_at_call 21; go_must (refine (t_put (ts := []) (us := ks) 28 noB noB 0 (by unfold okI; omega) (by decide) (by decide) (okI0) HS.out).mono ?_); rintro e wn ⟨q9, rfl, hqq9, hs, hk⟩; have HQq9 := hid hqq9; clear hqq9; have HS := hid hs; clear hs hk)
     exact ⟨⟨g, _, r, q9, by omega, HR.out, rfl, HQq9.out, StT.weak HS.out (by omega)⟩, by rw [HAT.out, HS.out.at_]; omega⟩
   have e := eq_false_of_ne_true d
   rw [if_neg d] at hr
   clear d
   by_cases d : isSign [91] l' = true
   ·rw [if_pos d] at hr
    have hlt := sign_pos d
    cases hu : insF g t l'.tail with
    | out => exact absurd (by rw [← hr, hu] <;> rfl) HNE.out
    | bad =>
     have hnu : insF g t l'.tail ≠ .out := by rw [hu]; intro e; cases e
     rw [hu] at hr
     have HR := hid hr
     clear hr
     go_upto_region 5 with (go_at_call 35; go_must (refine (t_signN ⟨#[40]⟩ [40] rfl HS.out e).mono ?_); rintro e wn ⟨rfl, hs, hk⟩; have HS := hid hs; clear hs hk)
     go_wp2_with first | (go_at_call 35; go_must (refine (t_sign ⟨#[91]⟩ [91] rfl HS.out d).mono ?_); rintro e wn ⟨rfl, hs, hk⟩; have HS := hid hs; clear hs hk) | (go_at_call 79; go_must (refine (((H g (by omega)).ins (ts := []) HS.out HQq.out hnu).mono fun _ _ x => Res.bad x hu).mono ?_); rintro e wn ⟨rfl, hb⟩; unfold stopP; have HB := hid hb; clear hb)
     rw [← HR.out]
     exact ⟨rfl, rfl, HB.out⟩
    | ok b r =>
     have hnu : insF g t l'.tail ≠ .out := by rw [hu]; intro e; cases e
     rw [hu] at hr
     have HR := hid hr
     have hlt2 := ins_lt hu
     clear hr
     go_upto_region 5 with (go_at_call 35; go_must (refine (t_signN ⟨#[40]⟩ [40] rfl HS.out e).mono ?_); rintro e wn ⟨rfl, hs, hk⟩; have HS := hid hs; clear hs hk)
     go_wp2_with first | (go_at_call 35; go_must (refine (t_sign ⟨#[91]⟩ [91] rfl HS.out d).mono ?_); rintro e wn ⟨rfl, hs, hk⟩; have HS := hid hs; clear hs hk) | (go_at_call 79; go_must (refine (((H g (by omega)).ins (ts := []) HS.out HQq.out hnu).mono fun _ _ x => Res.ok x hu).mono ?_); rintro e wn ⟨q9, rfl, hqq9, hs⟩; have HQq9 := hid hqq9; clear hqq9; have HS := hid hs; clear hs)
     exact ⟨⟨g, b, r, q9, by omega, HR.out, rfl, HQq9.out, StT.weak HS.out (by omega)⟩, by rw [HAT.out, HS.out.at_]; omega⟩
   have e2 := eq_false_of_ne_true d
   rw [if_neg d] at hr
   have HR := hid hr
   clear hr d
   go_upto_region 5 with (go_at_call 35; go_must (refine (t_signN ⟨#[40]⟩ [40] rfl HS.out e).mono ?_); rintro e wn ⟨rfl, hs, hk⟩; have HS := hid hs; clear hs hk)
   go_wp2_with (go_at_call 35; go_must (refine (t_signN ⟨#[91]⟩ [91] rfl HS.out e2).mono ?_); rintro e wn ⟨rfl, hs, hk⟩; have HS := hid hs; clear hs hk)
   go_ret
   rw [← HR.out]
   exact ⟨q, rfl, HQq.out, HS.out⟩

theorem ins_ok (f : Nat) (H : ∀ g, g ≤ f → Ctr g) : CB 2 79 (insF (f + 1)) := by
 refine baseB fun {w rp L l P Na s a q} h hq hne => ?_
 have HL1 := hid (lit1 (ts := []) h hq)
 clear h hq
 cases f with
 | zero => exact absurd (by rw [insF]; by_cases c : isSign [58] l = true <;> simp [c, want, Pr.bind, endF, exprF]) hne
 | succ f =>
  by_cases c : isSign [58] l = true
  ·by_cases t1 : isSign [93] l.tail = true
   ·have hr : insF (f + 1 + 1) a l = .ok (nd 30 [a, nd 31 [], nd 31 []]) l.tail.tail := by rw [insF]; simp [c, t1, endF, want, nd, Pr.bind]
    rw [hr]
    clear hr hne
    go_enter Try.func79, Try.ntmps79
    go_upto_region 2 with fail
    have HS := hid HL1.out
    go_upto_region 7 with first | (go_at_call 49; go_must (refine (t_looks ⟨#[58]⟩ [58] rfl HS.out).mono ?_); rintro e wn ⟨rfl, hs, hk⟩; rw [c]; have HS := hid hs; clear hs hk) | (go_at_call 21; go_must (refine (t_put0 (ts := [a]) 31 noB noB 0 (by unfold okI; omega) (by decide) (by decide) (okI0) HS.out).mono ?_); rintro e wn ⟨q2, rfl, hqq2, hs, hk⟩; have HQq2 := hid hqq2; clear hqq2; have HS := hid hs; clear hs hk) | (at_builtin; go_must (refine t_app (ts := []) (us := [a]) rfl (.tmp 22) (.tmp 26) rfl HS.out HQq2.out rfl rfl ?_); intro A1 c1 wn hs; have HS := hid hs; clear hs)
    go_upto_region 8 with (go_at_call 17; go_must (refine (t_want ⟨#[58]⟩ [58] rfl HS.out c).mono ?_); rintro e wn ⟨rfl, hs, hk⟩; have HS := hid hs; clear hs hk)
    go_upto_region 11 with first | (go_at_call 49; go_must (refine (t_looks ⟨#[93]⟩ [93] rfl HS.out).mono ?_); rintro e wn ⟨rfl, hs, hk⟩; rw [t1]; have HS := hid hs; clear hs hk) | (go_at_call 21; go_must (refine (t_put0 (ts := [a, nd 31 []]) 31 noB noB 0 (by unfold okI; omega) (by decide) (by decide) (okI0) HS.out).mono ?_); rintro e wn ⟨q3, rfl, hqq3, hs, hk⟩; have HQq3 := hid hqq3; clear hqq3; have HS := hid hs; clear hs hk) | (at_builtin; go_must (refine t_app (ts := []) (us := [a, nd 31 []]) rfl (.tmp 32) (.tmp 36) rfl HS.out HQq3.out rfl rfl ?_); intro A1 c1 wn hs; have HS := hid hs; clear hs)
    go_wp2_with first | (go_at_call 17; go_must (refine (t_want ⟨#[93]⟩ [93] rfl HS.out t1).mono ?_); rintro e wn ⟨rfl, hs, hk⟩; have HS := hid hs; clear hs hk) | (go_at_call 21; go_must (refine (t_put (ts := []) (us := [a, nd 31 [], nd 31 []]) 30 noB noB 0 (by unfold okI; omega) (by decide) (by decide) (okI0) HS.out).mono ?_); rintro e wn ⟨q9, rfl, hqq9, hs, hk⟩; have HQq9 := hid hqq9; clear hqq9; have HS := hid hs; clear hs hk)
    go_ret
    exact ⟨q9, rfl, HQq9.out, StT.weak HS.out (by omega)⟩
   have t2 := eq_false_of_ne_true t1
   clear t1
   cases hw : exprF f 1 l.tail with
   | out => exact absurd (by rw [insF]; simp [c, t2, hw, endF, want, nd, Pr.bind]) hne
   | bad =>
    have hnw : exprF f 1 l.tail ≠ .out := by rw [hw]; intro e; cases e
    have hr : insF (f + 1 + 1) a l = .bad := by rw [insF]; simp [c, t2, hw, endF, want, nd, Pr.bind]
    rw [hr]
    clear hr hne
    go_enter Try.func79, Try.ntmps79
    go_upto_region 2 with fail
    have HS := hid HL1.out
    go_upto_region 7 with first | (go_at_call 49; go_must (refine (t_looks ⟨#[58]⟩ [58] rfl HS.out).mono ?_); rintro e wn ⟨rfl, hs, hk⟩; rw [c]; have HS := hid hs; clear hs hk) | (go_at_call 21; go_must (refine (t_put0 (ts := [a]) 31 noB noB 0 (by unfold okI; omega) (by decide) (by decide) (okI0) HS.out).mono ?_); rintro e wn ⟨q2, rfl, hqq2, hs, hk⟩; have HQq2 := hid hqq2; clear hqq2; have HS := hid hs; clear hs hk) | (at_builtin; go_must (refine t_app (ts := []) (us := [a]) rfl (.tmp 22) (.tmp 26) rfl HS.out HQq2.out rfl rfl ?_); intro A1 c1 wn hs; have HS := hid hs; clear hs)
    go_upto_region 8 with (go_at_call 17; go_must (refine (t_want ⟨#[58]⟩ [58] rfl HS.out c).mono ?_); rintro e wn ⟨rfl, hs, hk⟩; have HS := hid hs; clear hs hk)
    go_wp2_with first | (go_at_call 49; go_must (refine (t_looks ⟨#[93]⟩ [93] rfl HS.out).mono ?_); rintro e wn ⟨rfl, hs, hk⟩; rw [t2]; have HS := hid hs; clear hs hk) | (go_at_call 61; go_must (refine (((H f (by omega)).expr (ts := [a, nd 31 []]) 1 (by omega) HS.out hnw).mono fun _ _ x => Res.bad x hw).mono ?_); rintro e wn ⟨rfl, hb⟩; unfold stopP; have HB := hid hb; clear hb)
    exact ⟨rfl, rfl, HB.out⟩
   | ok e r3 =>
    have hnw : exprF f 1 l.tail ≠ .out := by rw [hw]; intro e; cases e
    by_cases t3 : isSign [93] r3 = true
    ·have hr : insF (f + 1 + 1) a l = .ok (nd 30 [a, nd 31 [], e]) r3.tail := by rw [insF]; simp [c, t2, hw, t3, endF, want, nd, Pr.bind]
     rw [hr]
     clear hr hne
     go_enter Try.func79, Try.ntmps79
     go_upto_region 2 with fail
     have HS := hid HL1.out
     go_upto_region 7 with first | (go_at_call 49; go_must (refine (t_looks ⟨#[58]⟩ [58] rfl HS.out).mono ?_); rintro e wn ⟨rfl, hs, hk⟩; rw [c]; have HS := hid hs; clear hs hk) | (go_at_call 21; go_must (refine (t_put0 (ts := [a]) 31 noB noB 0 (by unfold okI; omega) (by decide) (by decide) (okI0) HS.out).mono ?_); rintro e wn ⟨q2, rfl, hqq2, hs, hk⟩; have HQq2 := hid hqq2; clear hqq2; have HS := hid hs; clear hs hk) | (at_builtin; go_must (refine t_app (ts := []) (us := [a]) rfl (.tmp 22) (.tmp 26) rfl HS.out HQq2.out rfl rfl ?_); intro A1 c1 wn hs; have HS := hid hs; clear hs)
     go_upto_region 8 with (go_at_call 17; go_must (refine (t_want ⟨#[58]⟩ [58] rfl HS.out c).mono ?_); rintro e wn ⟨rfl, hs, hk⟩; have HS := hid hs; clear hs hk)
     go_upto_region 11 with first | (go_at_call 49; go_must (refine (t_looks ⟨#[93]⟩ [93] rfl HS.out).mono ?_); rintro e wn ⟨rfl, hs, hk⟩; rw [t2]; have HS := hid hs; clear hs hk) | (go_at_call 61; go_must (refine (((H f (by omega)).expr (ts := [a, nd 31 []]) 1 (by omega) HS.out hnw).mono fun _ _ x => Res.ok x hw).mono ?_); rintro e wn ⟨q3, rfl, hqq3, hs⟩; have HQq3 := hid hqq3; clear hqq3; have HS := hid hs; clear hs) | (at_builtin; go_must (refine t_app (ts := []) (us := [a, nd 31 []]) rfl (.tmp 38) (.tmp 41) rfl HS.out HQq3.out rfl rfl ?_); intro A1 c1 wn hs; have HS := hid hs; clear hs)
     go_wp2_with first | (go_at_call 17; go_must (refine (t_want ⟨#[93]⟩ [93] rfl HS.out t3).mono ?_); rintro e wn ⟨rfl, hs, hk⟩; have HS := hid hs; clear hs hk) | (go_at_call 21; go_must (refine (t_put (ts := []) (us := [a, nd 31 [], e]) 30 noB noB 0 (by unfold okI; omega) (by decide) (by decide) (okI0) HS.out).mono ?_); rintro e wn ⟨q9, rfl, hqq9, hs, hk⟩; have HQq9 := hid hqq9; clear hqq9; have HS := hid hs; clear hs hk)
     go_ret
     exact ⟨q9, rfl, HQq9.out, StT.weak HS.out (by omega)⟩
    have t4 := eq_false_of_ne_true t3
    have hr : insF (f + 1 + 1) a l = .bad := by rw [insF]; simp [c, t2, hw, t4, endF, want, nd, Pr.bind]
    rw [hr]
    clear hr hne t3
    go_enter Try.func79, Try.ntmps79
    go_upto_region 2 with fail
    have HS := hid HL1.out
    go_upto_region 7 with first | (go_at_call 49; go_must (refine (t_looks ⟨#[58]⟩ [58] rfl HS.out).mono ?_); rintro e wn ⟨rfl, hs, hk⟩; rw [c]; have HS := hid hs; clear hs hk) | (go_at_call 21; go_must (refine (t_put0 (ts := [a]) 31 noB noB 0 (by unfold okI; omega) (by decide) (by decide) (okI0) HS.out).mono ?_); rintro e wn ⟨q2, rfl, hqq2, hs, hk⟩; have HQq2 := hid hqq2; clear hqq2; have HS := hid hs; clear hs hk) | (at_builtin; go_must (refine t_app (ts := []) (us := [a]) rfl (.tmp 22) (.tmp 26) rfl HS.out HQq2.out rfl rfl ?_); intro A1 c1 wn hs; have HS := hid hs; clear hs)
    go_upto_region 8 with (go_at_call 17; go_must (refine (t_want ⟨#[58]⟩ [58] rfl HS.out c).mono ?_); rintro e wn ⟨rfl, hs, hk⟩; have HS := hid hs; clear hs hk)
    go_upto_region 11 with first | (go_at_call 49; go_must (refine (t_looks ⟨#[93]⟩ [93] rfl HS.out).mono ?_); rintro e wn ⟨rfl, hs, hk⟩; rw [t2]; have HS := hid hs; clear hs hk) | (go_at_call 61; go_must (refine (((H f (by omega)).expr (ts := [a, nd 31 []]) 1 (by omega) HS.out hnw).mono fun _ _ x => Res.ok x hw).mono ?_); rintro e wn ⟨q3, rfl, hqq3, hs⟩; have HQq3 := hid hqq3; clear hqq3; have HS := hid hs; clear hs) | (at_builtin; go_must (refine t_app (ts := []) (us := [a, nd 31 []]) rfl (.tmp 38) (.tmp 41) rfl HS.out HQq3.out rfl rfl ?_); intro A1 c1 wn hs; have HS := hid hs; clear hs)
    go_wp2_with (go_at_call 17; go_must (refine (t_wantN ⟨#[93]⟩ [93] rfl HS.out t4).mono ?_); rintro e wn ⟨rfl, hb, hk⟩; unfold stopP; have HB := hid hb; clear hb hk)
    exact ⟨rfl, rfl, HB.out⟩
  have g := eq_false_of_ne_true c
  clear c
  cases hu : exprF (f + 1) 1 l with
  | out => exact absurd (by rw [insF]; simp [g, hu, Pr.bind]) hne
  | bad =>
   have hnu : exprF (f + 1) 1 l ≠ .out := by rw [hu]; intro e; cases e
   have hr : insF (f + 1 + 1) a l = .bad := by rw [insF]; simp [g, hu, Pr.bind]
   rw [hr]
   clear hr hne
   go_enter Try.func79, Try.ntmps79
   go_upto_region 2 with fail
   have HS := hid HL1.out
   go_wp2_with first | (go_at_call 49; go_must (refine (t_looks ⟨#[58]⟩ [58] rfl HS.out).mono ?_); rintro e wn ⟨rfl, hs, hk⟩; rw [g]; have HS := hid hs; clear hs hk) | (go_at_call 61; go_must (refine (((H (f + 1) (by omega)).expr (ts := [a]) 1 (by omega) HS.out hnu).mono fun _ _ x => Res.bad x hu).mono ?_); rintro e wn ⟨rfl, hb⟩; unfold stopP; have HB := hid hb; clear hb)
   exact ⟨rfl, rfl, HB.out⟩
  | ok b r =>
   have hnu : exprF (f + 1) 1 l ≠ .out := by rw [hu]; intro e; cases e
   by_cases c3 : isSign [93] r = true
   ·have hr : insF (f + 1 + 1) a l = .ok (nd 29 [a, b]) r.tail := by rw [insF]; simp [g, hu, c3, nd, Pr.bind]
    rw [hr]
    clear hr hne
    go_enter Try.func79, Try.ntmps79
    go_upto_region 2 with fail
    have HS := hid HL1.out
    go_upto_region 4 with first | (go_at_call 49; go_must (refine (t_looks ⟨#[58]⟩ [58] rfl HS.out).mono ?_); rintro e wn ⟨rfl, hs, hk⟩; rw [g]; have HS := hid hs; clear hs hk) | (go_at_call 61; go_must (refine (((H (f + 1) (by omega)).expr (ts := [a]) 1 (by omega) HS.out hnu).mono fun _ _ x => Res.ok x hu).mono ?_); rintro e wn ⟨q2, rfl, hqq2, hs⟩; have HQq2 := hid hqq2; clear hqq2; have HS := hid hs; clear hs) | (at_builtin; go_must (refine t_app (ts := []) (us := [a]) rfl (.tmp 11) (.tmp 14) rfl HS.out HQq2.out rfl rfl ?_); intro A1 c1 wn hs; have HS := hid hs; clear hs)
    go_wp2_with first | (go_at_call 35; go_must (refine (t_sign ⟨#[93]⟩ [93] rfl HS.out c3).mono ?_); rintro e wn ⟨rfl, hs, hk⟩; have HS := hid hs; clear hs hk) | (go_at_call 21; go_must (refine (t_put (ts := []) (us := [a, b]) 29 noB noB 0 (by unfold okI; omega) (by decide) (by decide) (okI0) HS.out).mono ?_); rintro e wn ⟨q9, rfl, hqq9, hs, hk⟩; have HQq9 := hid hqq9; clear hqq9; have HS := hid hs; clear hs hk)
    go_ret
    exact ⟨q9, rfl, HQq9.out, StT.weak HS.out (by omega)⟩
   have c4 := eq_false_of_ne_true c3
   clear c3
   by_cases c5 : isSign [58] r = true
   rotate_left
   ·have c6 := eq_false_of_ne_true c5
    have hr : insF (f + 1 + 1) a l = .bad := by rw [insF]; simp [g, hu, c4, c6, want, Pr.bind]
    rw [hr]
    clear hr hne c5
    go_enter Try.func79, Try.ntmps79
    go_upto_region 2 with fail
    have HS := hid HL1.out
    go_upto_region 4 with first | (go_at_call 49; go_must (refine (t_looks ⟨#[58]⟩ [58] rfl HS.out).mono ?_); rintro e wn ⟨rfl, hs, hk⟩; rw [g]; have HS := hid hs; clear hs hk) | (go_at_call 61; go_must (refine (((H (f + 1) (by omega)).expr (ts := [a]) 1 (by omega) HS.out hnu).mono fun _ _ x => Res.ok x hu).mono ?_); rintro e wn ⟨q2, rfl, hqq2, hs⟩; have HQq2 := hid hqq2; clear hqq2; have HS := hid hs; clear hs) | (at_builtin; go_must (refine t_app (ts := []) (us := [a]) rfl (.tmp 11) (.tmp 14) rfl HS.out HQq2.out rfl rfl ?_); intro A1 c1 wn hs; have HS := hid hs; clear hs)
    go_upto_region 7 with (go_at_call 35; go_must (refine (t_signN ⟨#[93]⟩ [93] rfl HS.out c4).mono ?_); rintro e wn ⟨rfl, hs, hk⟩; have HS := hid hs; clear hs hk)
    go_wp2_with (go_at_call 17; go_must (refine (t_wantN ⟨#[58]⟩ [58] rfl HS.out c6).mono ?_); rintro e wn ⟨rfl, hb, hk⟩; unfold stopP; have HB := hid hb; clear hb hk)
    exact ⟨rfl, rfl, HB.out⟩
   by_cases t1 : isSign [93] r.tail = true
   ·have hr : insF (f + 1 + 1) a l = .ok (nd 30 [a, b, nd 31 []]) r.tail.tail := by rw [insF]; simp [g, hu, c4, c5, t1, endF, want, nd, Pr.bind]
    rw [hr]
    clear hr hne
    go_enter Try.func79, Try.ntmps79
    go_upto_region 2 with fail
    have HS := hid HL1.out
    go_upto_region 4 with first | (go_at_call 49; go_must (refine (t_looks ⟨#[58]⟩ [58] rfl HS.out).mono ?_); rintro e wn ⟨rfl, hs, hk⟩; rw [g]; have HS := hid hs; clear hs hk) | (go_at_call 61; go_must (refine (((H (f + 1) (by omega)).expr (ts := [a]) 1 (by omega) HS.out hnu).mono fun _ _ x => Res.ok x hu).mono ?_); rintro e wn ⟨q2, rfl, hqq2, hs⟩; have HQq2 := hid hqq2; clear hqq2; have HS := hid hs; clear hs) | (at_builtin; go_must (refine t_app (ts := []) (us := [a]) rfl (.tmp 11) (.tmp 14) rfl HS.out HQq2.out rfl rfl ?_); intro A1 c1 wn hs; have HS := hid hs; clear hs)
    go_upto_region 7 with (go_at_call 35; go_must (refine (t_signN ⟨#[93]⟩ [93] rfl HS.out c4).mono ?_); rintro e wn ⟨rfl, hs, hk⟩; have HS := hid hs; clear hs hk)
    go_upto_region 8 with (go_at_call 17; go_must (refine (t_want ⟨#[58]⟩ [58] rfl HS.out c5).mono ?_); rintro e wn ⟨rfl, hs, hk⟩; have HS := hid hs; clear hs hk)
    go_upto_region 11 with first | (go_at_call 49; go_must (refine (t_looks ⟨#[93]⟩ [93] rfl HS.out).mono ?_); rintro e wn ⟨rfl, hs, hk⟩; rw [t1]; have HS := hid hs; clear hs hk) | (go_at_call 21; go_must (refine (t_put0 (ts := [a, b]) 31 noB noB 0 (by unfold okI; omega) (by decide) (by decide) (okI0) HS.out).mono ?_); rintro e wn ⟨q3, rfl, hqq3, hs, hk⟩; have HQq3 := hid hqq3; clear hqq3; have HS := hid hs; clear hs hk) | (at_builtin; go_must (refine t_app (ts := []) (us := [a, b]) rfl (.tmp 32) (.tmp 36) rfl HS.out HQq3.out rfl rfl ?_); intro A1 c1 wn hs; have HS := hid hs; clear hs)
    go_wp2_with first | (go_at_call 17; go_must (refine (t_want ⟨#[93]⟩ [93] rfl HS.out t1).mono ?_); rintro e wn ⟨rfl, hs, hk⟩; have HS := hid hs; clear hs hk) | (go_at_call 21; go_must (refine (t_put (ts := []) (us := [a, b, nd 31 []]) 30 noB noB 0 (by unfold okI; omega) (by decide) (by decide) (okI0) HS.out).mono ?_); rintro e wn ⟨q9, rfl, hqq9, hs, hk⟩; have HQq9 := hid hqq9; clear hqq9; have HS := hid hs; clear hs hk)
    go_ret
    exact ⟨q9, rfl, HQq9.out, StT.weak HS.out (by omega)⟩
   have t2 := eq_false_of_ne_true t1
   clear t1
   cases hw : exprF f 1 r.tail with
   | out => exact absurd (by rw [insF]; simp [g, hu, c4, c5, t2, hw, endF, want, nd, Pr.bind]) hne
   | bad =>
    have hnw : exprF f 1 r.tail ≠ .out := by rw [hw]; intro e; cases e
    have hr : insF (f + 1 + 1) a l = .bad := by rw [insF]; simp [g, hu, c4, c5, t2, hw, endF, want, nd, Pr.bind]
    rw [hr]
    clear hr hne
    go_enter Try.func79, Try.ntmps79
    go_upto_region 2 with fail
    have HS := hid HL1.out
    go_upto_region 4 with first | (go_at_call 49; go_must (refine (t_looks ⟨#[58]⟩ [58] rfl HS.out).mono ?_); rintro e wn ⟨rfl, hs, hk⟩; rw [g]; have HS := hid hs; clear hs hk) | (go_at_call 61; go_must (refine (((H (f + 1) (by omega)).expr (ts := [a]) 1 (by omega) HS.out hnu).mono fun _ _ x => Res.ok x hu).mono ?_); rintro e wn ⟨q2, rfl, hqq2, hs⟩; have HQq2 := hid hqq2; clear hqq2; have HS := hid hs; clear hs) | (at_builtin; go_must (refine t_app (ts := []) (us := [a]) rfl (.tmp 11) (.tmp 14) rfl HS.out HQq2.out rfl rfl ?_); intro A1 c1 wn hs; have HS := hid hs; clear hs)
    go_upto_region 7 with (go_at_call 35; go_must (refine (t_signN ⟨#[93]⟩ [93] rfl HS.out c4).mono ?_); rintro e wn ⟨rfl, hs, hk⟩; have HS := hid hs; clear hs hk)
    go_upto_region 8 with (go_at_call 17; go_must (refine (t_want ⟨#[58]⟩ [58] rfl HS.out c5).mono ?_); rintro e wn ⟨rfl, hs, hk⟩; have HS := hid hs; clear hs hk)
    go_wp2_with first | (go_at_call 49; go_must (refine (t_looks ⟨#[93]⟩ [93] rfl HS.out).mono ?_); rintro e wn ⟨rfl, hs, hk⟩; rw [t2]; have HS := hid hs; clear hs hk) | (go_at_call 61; go_must (refine (((H f (by omega)).expr (ts := [a, b]) 1 (by omega) HS.out hnw).mono fun _ _ x => Res.bad x hw).mono ?_); rintro e wn ⟨rfl, hb⟩; unfold stopP; have HB := hid hb; clear hb)
    exact ⟨rfl, rfl, HB.out⟩
   | ok e r3 =>
    have hnw : exprF f 1 r.tail ≠ .out := by rw [hw]; intro e; cases e
    by_cases t3 : isSign [93] r3 = true
    ·have hr : insF (f + 1 + 1) a l = .ok (nd 30 [a, b, e]) r3.tail := by rw [insF]; simp [g, hu, c4, c5, t2, hw, t3, endF, want, nd, Pr.bind]
     rw [hr]
     clear hr hne
     go_enter Try.func79, Try.ntmps79
     go_upto_region 2 with fail
     have HS := hid HL1.out
     go_upto_region 4 with first | (go_at_call 49; go_must (refine (t_looks ⟨#[58]⟩ [58] rfl HS.out).mono ?_); rintro e wn ⟨rfl, hs, hk⟩; rw [g]; have HS := hid hs; clear hs hk) | (go_at_call 61; go_must (refine (((H (f + 1) (by omega)).expr (ts := [a]) 1 (by omega) HS.out hnu).mono fun _ _ x => Res.ok x hu).mono ?_); rintro e wn ⟨q2, rfl, hqq2, hs⟩; have HQq2 := hid hqq2; clear hqq2; have HS := hid hs; clear hs) | (at_builtin; go_must (refine t_app (ts := []) (us := [a]) rfl (.tmp 11) (.tmp 14) rfl HS.out HQq2.out rfl rfl ?_); intro A1 c1 wn hs; have HS := hid hs; clear hs)
     go_upto_region 7 with (go_at_call 35; go_must (refine (t_signN ⟨#[93]⟩ [93] rfl HS.out c4).mono ?_); rintro e wn ⟨rfl, hs, hk⟩; have HS := hid hs; clear hs hk)
     go_upto_region 8 with (go_at_call 17; go_must (refine (t_want ⟨#[58]⟩ [58] rfl HS.out c5).mono ?_); rintro e wn ⟨rfl, hs, hk⟩; have HS := hid hs; clear hs hk)
     go_upto_region 11 with first | (go_at_call 49; go_must (refine (t_looks ⟨#[93]⟩ [93] rfl HS.out).mono ?_); rintro e wn ⟨rfl, hs, hk⟩; rw [t2]; have HS := hid hs; clear hs hk) | (go_at_call 61; go_must (refine (((H f (by omega)).expr (ts := [a, b]) 1 (by omega) HS.out hnw).mono fun _ _ x => Res.ok x hw).mono ?_); rintro e wn ⟨q3, rfl, hqq3, hs⟩; have HQq3 := hid hqq3; clear hqq3; have HS := hid hs; clear hs) | (at_builtin; go_must (refine t_app (ts := []) (us := [a, b]) rfl (.tmp 38) (.tmp 41) rfl HS.out HQq3.out rfl rfl ?_); intro A1 c1 wn hs; have HS := hid hs; clear hs)
     go_wp2_with first | (go_at_call 17; go_must (refine (t_want ⟨#[93]⟩ [93] rfl HS.out t3).mono ?_); rintro e wn ⟨rfl, hs, hk⟩; have HS := hid hs; clear hs hk) | (go_at_call 21; go_must (refine (t_put (ts := []) (us := [a, b, e]) 30 noB noB 0 (by unfold okI; omega) (by decide) (by decide) (okI0) HS.out).mono ?_); rintro e wn ⟨q9, rfl, hqq9, hs, hk⟩; have HQq9 := hid hqq9; clear hqq9; have HS := hid hs; clear hs hk)
     go_ret
     exact ⟨q9, rfl, HQq9.out, StT.weak HS.out (by omega)⟩
    have t4 := eq_false_of_ne_true t3
    have hr : insF (f + 1 + 1) a l = .bad := by rw [insF]; simp [g, hu, c4, c5, t2, hw, t4, endF, want, nd, Pr.bind]
    rw [hr]
    clear hr hne t3
    go_enter Try.func79, Try.ntmps79
    go_upto_region 2 with fail
    have HS := hid HL1.out
    go_upto_region 4 with first | (go_at_call 49; go_must (refine (t_looks ⟨#[58]⟩ [58] rfl HS.out).mono ?_); rintro e wn ⟨rfl, hs, hk⟩; rw [g]; have HS := hid hs; clear hs hk) | (go_at_call 61; go_must (refine (((H (f + 1) (by omega)).expr (ts := [a]) 1 (by omega) HS.out hnu).mono fun _ _ x => Res.ok x hu).mono ?_); rintro e wn ⟨q2, rfl, hqq2, hs⟩; have HQq2 := hid hqq2; clear hqq2; have HS := hid hs; clear hs) | (at_builtin; go_must (refine t_app (ts := []) (us := [a]) rfl (.tmp 11) (.tmp 14) rfl HS.out HQq2.out rfl rfl ?_); intro A1 c1 wn hs; have HS := hid hs; clear hs)
    go_upto_region 7 with (go_at_call 35; go_must (refine (t_signN ⟨#[93]⟩ [93] rfl HS.out c4).mono ?_); rintro e wn ⟨rfl, hs, hk⟩; have HS := hid hs; clear hs hk)
    go_upto_region 8 with (go_at_call 17; go_must (refine (t_want ⟨#[58]⟩ [58] rfl HS.out c5).mono ?_); rintro e wn ⟨rfl, hs, hk⟩; have HS := hid hs; clear hs hk)
    go_upto_region 11 with first | (go_at_call 49; go_must (refine (t_looks ⟨#[93]⟩ [93] rfl HS.out).mono ?_); rintro e wn ⟨rfl, hs, hk⟩; rw [t2]; have HS := hid hs; clear hs hk) | (go_at_call 61; go_must (refine (((H f (by omega)).expr (ts := [a, b]) 1 (by omega) HS.out hnw).mono fun _ _ x => Res.ok x hw).mono ?_); rintro e wn ⟨q3, rfl, hqq3, hs⟩; have HQq3 := hid hqq3; clear hqq3; have HS := hid hs; clear hs) | (at_builtin; go_must (refine t_app (ts := []) (us := [a, b]) rfl (.tmp 38) (.tmp 41) rfl HS.out HQq3.out rfl rfl ?_); intro A1 c1 wn hs; have HS := hid hs; clear hs)
    go_wp2_with (go_at_call 17; go_must (refine (t_wantN ⟨#[93]⟩ [93] rfl HS.out t4).mono ?_); rintro e wn ⟨rfl, hb, hk⟩; unfold stopP; have HB := hid hb; clear hb hk)
    exact ⟨rfl, rfl, HB.out⟩

theorem ifs_ok (f : Nat) (H : Ctr f) : C1 0 60 (ifsF (f + 1)) := by
 refine base1 fun {w rp L l P Na s} h hne => ?_
 have HS := hid h
 clear h
 cases hu : exprF f 1 l with
 | out => exact absurd (by rw [ifsF]; simp [hu, Pr.bind]) hne
 | bad =>
  have hnu : exprF f 1 l ≠ .out := by rw [hu]; intro e; cases e
  have hr : ifsF (f + 1) l = .bad := by rw [ifsF]; simp [hu, Pr.bind]
  rw [hr]
  clear hr hne
  go_enter Try.func60, Try.ntmps60
  go_wp2_with (go_at_call 61; go_must (refine ((H.expr 1 (by omega) HS.out hnu).mono fun _ _ x => Res.bad x hu).mono ?_); rintro e wn ⟨rfl, hb⟩; unfold stopP; have HB := hid hb; clear hb)
  exact ⟨rfl, rfl, HB.out⟩
 | ok a r =>
  have hnu : exprF f 1 l ≠ .out := by rw [hu]; intro e; cases e
  cases hv : blockF f r with
  | out => exact absurd (by rw [ifsF]; simp [hu, hv, Pr.bind]) hne
  | bad =>
   have hnv : blockF f r ≠ .out := by rw [hv]; intro e; cases e
   have hr : ifsF (f + 1) l = .bad := by rw [ifsF]; simp [hu, hv, Pr.bind]
   rw [hr]
   clear hr hne
   go_enter Try.func60, Try.ntmps60
   go_upto_region 2 with (go_at_call 61; go_must (refine ((H.expr 1 (by omega) HS.out hnu).mono fun _ _ x => Res.ok x hu).mono ?_); rintro e wn ⟨q, rfl, hqq, hs⟩; have HQq := hid hqq; clear hqq; have HS := hid hs; clear hs)
   have HS := hid (lit1 (ts := []) HS.out HQq.out)
   go_wp2_with (go_at_call 38; go_must (refine ((H.block (ts := [a]) HS.out hnv).mono fun _ _ x => Res.bad x hv).mono ?_); rintro e wn ⟨rfl, hb⟩; unfold stopP; have HB := hid hb; clear hb)
   exact ⟨rfl, rfl, HB.out⟩
  | ok b r2 =>
   have hnv : blockF f r ≠ .out := by rw [hv]; intro e; cases e
   by_cases c : isSign kElse r2 = true
   rotate_left
   ·have g := eq_false_of_ne_true c
    have hr : ifsF (f + 1) l = .ok (nd 10 [a, b]) r2 := by rw [ifsF]; simp [hu, hv, g, Pr.bind]
    rw [hr]
    clear hr hne c
    go_enter Try.func60, Try.ntmps60
    go_upto_region 2 with (go_at_call 61; go_must (refine ((H.expr 1 (by omega) HS.out hnu).mono fun _ _ x => Res.ok x hu).mono ?_); rintro e wn ⟨q, rfl, hqq, hs⟩; have HQq := hid hqq; clear hqq; have HS := hid hs; clear hs)
    have HS := hid (lit1 (ts := []) HS.out HQq.out)
    go_upto_region 3 with first | (go_at_call 38; go_must (refine ((H.block (ts := [a]) HS.out hnv).mono fun _ _ x => Res.ok x hv).mono ?_); rintro e wn ⟨q2, rfl, hqq2, hs⟩; have HQq2 := hid hqq2; clear hqq2; have HS := hid hs; clear hs) | (at_builtin; go_must (refine t_app (ts := []) (us := [a]) rfl (.tmp 7) (.tmp 10) rfl HS.out HQq2.out rfl rfl ?_); intro A1 c1 wn hs; have HS := hid hs; clear hs)
    go_wp2_with first | (go_at_call 35; go_must (refine (t_signN ⟨#[101, 108, 115, 101]⟩ [101, 108, 115, 101] rfl HS.out g).mono ?_); rintro e wn ⟨rfl, hs, hk⟩; have HS := hid hs; clear hs hk) | (go_at_call 21; go_must (refine (t_put (ts := []) (us := [a, b]) 10 noB noB 0 (by unfold okI; omega) (by decide) (by decide) (okI0) HS.out).mono ?_); rintro e wn ⟨q9, rfl, hqq9, hs, hk⟩; have HQq9 := hid hqq9; clear hqq9; have HS := hid hs; clear hs hk)
    go_ret
    exact ⟨q9, rfl, HQq9.out, StT.weak HS.out (by omega)⟩
   by_cases d : isSign kIf r2.tail = true
   ·cases hw : ifsF f r2.tail.tail with
    | out => exact absurd (by rw [ifsF]; simp [hu, hv, c, d, hw, Pr.bind]) hne
    | bad =>
     have hnw : ifsF f r2.tail.tail ≠ .out := by rw [hw]; intro e; cases e
     have hr : ifsF (f + 1) l = .bad := by rw [ifsF]; simp [hu, hv, c, d, hw, Pr.bind]
     rw [hr]
     clear hr hne
     go_enter Try.func60, Try.ntmps60
     go_upto_region 2 with (go_at_call 61; go_must (refine ((H.expr 1 (by omega) HS.out hnu).mono fun _ _ x => Res.ok x hu).mono ?_); rintro e wn ⟨q, rfl, hqq, hs⟩; have HQq := hid hqq; clear hqq; have HS := hid hs; clear hs)
     have HS := hid (lit1 (ts := []) HS.out HQq.out)
     go_upto_region 3 with first | (go_at_call 38; go_must (refine ((H.block (ts := [a]) HS.out hnv).mono fun _ _ x => Res.ok x hv).mono ?_); rintro e wn ⟨q2, rfl, hqq2, hs⟩; have HQq2 := hid hqq2; clear hqq2; have HS := hid hs; clear hs) | (at_builtin; go_must (refine t_app (ts := []) (us := [a]) rfl (.tmp 7) (.tmp 10) rfl HS.out HQq2.out rfl rfl ?_); intro A1 c1 wn hs; have HS := hid hs; clear hs)
     go_upto_region 4 with (go_at_call 35; go_must (refine (t_sign ⟨#[101, 108, 115, 101]⟩ [101, 108, 115, 101] rfl HS.out c).mono ?_); rintro e wn ⟨rfl, hs, hk⟩; have HS := hid hs; clear hs hk)
     go_upto_region 5 with (go_at_call 35; go_must (refine (t_sign ⟨#[105, 102]⟩ [105, 102] rfl HS.out d).mono ?_); rintro e wn ⟨rfl, hs, hk⟩; have HS := hid hs; clear hs hk)
     go_wp2_with (go_at_call 60; go_must (refine ((H.ifs (ts := [a, b]) HS.out hnw).mono fun _ _ x => Res.bad x hw).mono ?_); rintro e wn ⟨rfl, hb⟩; unfold stopP; have HB := hid hb; clear hb)
     exact ⟨rfl, rfl, HB.out⟩
    | ok e r3 =>
     have hnw : ifsF f r2.tail.tail ≠ .out := by rw [hw]; intro e; cases e
     have hr : ifsF (f + 1) l = .ok (nd 10 [a, b, e]) r3 := by rw [ifsF]; simp [hu, hv, c, d, hw, Pr.bind]
     rw [hr]
     clear hr hne
     go_enter Try.func60, Try.ntmps60
     go_upto_region 2 with (go_at_call 61; go_must (refine ((H.expr 1 (by omega) HS.out hnu).mono fun _ _ x => Res.ok x hu).mono ?_); rintro e wn ⟨q, rfl, hqq, hs⟩; have HQq := hid hqq; clear hqq; have HS := hid hs; clear hs)
     have HS := hid (lit1 (ts := []) HS.out HQq.out)
     go_upto_region 3 with first | (go_at_call 38; go_must (refine ((H.block (ts := [a]) HS.out hnv).mono fun _ _ x => Res.ok x hv).mono ?_); rintro e wn ⟨q2, rfl, hqq2, hs⟩; have HQq2 := hid hqq2; clear hqq2; have HS := hid hs; clear hs) | (at_builtin; go_must (refine t_app (ts := []) (us := [a]) rfl (.tmp 7) (.tmp 10) rfl HS.out HQq2.out rfl rfl ?_); intro A1 c1 wn hs; have HS := hid hs; clear hs)
     go_upto_region 4 with (go_at_call 35; go_must (refine (t_sign ⟨#[101, 108, 115, 101]⟩ [101, 108, 115, 101] rfl HS.out c).mono ?_); rintro e wn ⟨rfl, hs, hk⟩; have HS := hid hs; clear hs hk)
     go_upto_region 5 with (go_at_call 35; go_must (refine (t_sign ⟨#[105, 102]⟩ [105, 102] rfl HS.out d).mono ?_); rintro e wn ⟨rfl, hs, hk⟩; have HS := hid hs; clear hs hk)
     go_wp2_with first | (go_at_call 60; go_must (refine ((H.ifs (ts := [a, b]) HS.out hnw).mono fun _ _ x => Res.ok x hw).mono ?_); rintro e wn ⟨q3, rfl, hqq3, hs⟩; have HQq3 := hid hqq3; clear hqq3; have HS := hid hs; clear hs) | (at_builtin; go_must (refine t_app (ts := []) (us := [a, b]) rfl (.tmp 16) (.tmp 19) rfl HS.out HQq3.out rfl rfl ?_); intro A1 c1 wn hs; have HS := hid hs; clear hs) | (go_at_call 21; go_must (refine (t_put (ts := []) (us := [a, b, e]) 10 noB noB 0 (by unfold okI; omega) (by decide) (by decide) (okI0) HS.out).mono ?_); rintro e wn ⟨q9, rfl, hqq9, hs, hk⟩; have HQq9 := hid hqq9; clear hqq9; have HS := hid hs; clear hs hk)
     go_ret
     exact ⟨q9, rfl, HQq9.out, StT.weak HS.out (by omega)⟩
   ·have g := eq_false_of_ne_true d
    cases hw : blockF f r2.tail with
    | out => exact absurd (by rw [ifsF]; simp [hu, hv, c, g, hw, Pr.bind]) hne
    | bad =>
     have hnw : blockF f r2.tail ≠ .out := by rw [hw]; intro e; cases e
     have hr : ifsF (f + 1) l = .bad := by rw [ifsF]; simp [hu, hv, c, g, hw, Pr.bind]
     rw [hr]
     clear hr hne
     go_enter Try.func60, Try.ntmps60
     go_upto_region 2 with (go_at_call 61; go_must (refine ((H.expr 1 (by omega) HS.out hnu).mono fun _ _ x => Res.ok x hu).mono ?_); rintro e wn ⟨q, rfl, hqq, hs⟩; have HQq := hid hqq; clear hqq; have HS := hid hs; clear hs)
     have HS := hid (lit1 (ts := []) HS.out HQq.out)
     go_upto_region 3 with first | (go_at_call 38; go_must (refine ((H.block (ts := [a]) HS.out hnv).mono fun _ _ x => Res.ok x hv).mono ?_); rintro e wn ⟨q2, rfl, hqq2, hs⟩; have HQq2 := hid hqq2; clear hqq2; have HS := hid hs; clear hs) | (at_builtin; go_must (refine t_app (ts := []) (us := [a]) rfl (.tmp 7) (.tmp 10) rfl HS.out HQq2.out rfl rfl ?_); intro A1 c1 wn hs; have HS := hid hs; clear hs)
     go_upto_region 4 with (go_at_call 35; go_must (refine (t_sign ⟨#[101, 108, 115, 101]⟩ [101, 108, 115, 101] rfl HS.out c).mono ?_); rintro e wn ⟨rfl, hs, hk⟩; have HS := hid hs; clear hs hk)
     go_upto_region 6 with (go_at_call 35; go_must (refine (t_signN ⟨#[105, 102]⟩ [105, 102] rfl HS.out g).mono ?_); rintro e wn ⟨rfl, hs, hk⟩; have HS := hid hs; clear hs hk)
     go_wp2_with (go_at_call 38; go_must (refine ((H.block (ts := [a, b]) HS.out hnw).mono fun _ _ x => Res.bad x hw).mono ?_); rintro e wn ⟨rfl, hb⟩; unfold stopP; have HB := hid hb; clear hb)
     exact ⟨rfl, rfl, HB.out⟩
    | ok e r3 =>
     have hnw : blockF f r2.tail ≠ .out := by rw [hw]; intro e; cases e
     have hr : ifsF (f + 1) l = .ok (nd 10 [a, b, e]) r3 := by rw [ifsF]; simp [hu, hv, c, g, hw, Pr.bind]
     rw [hr]
     clear hr hne
     go_enter Try.func60, Try.ntmps60
     go_upto_region 2 with (go_at_call 61; go_must (refine ((H.expr 1 (by omega) HS.out hnu).mono fun _ _ x => Res.ok x hu).mono ?_); rintro e wn ⟨q, rfl, hqq, hs⟩; have HQq := hid hqq; clear hqq; have HS := hid hs; clear hs)
     have HS := hid (lit1 (ts := []) HS.out HQq.out)
     go_upto_region 3 with first | (go_at_call 38; go_must (refine ((H.block (ts := [a]) HS.out hnv).mono fun _ _ x => Res.ok x hv).mono ?_); rintro e wn ⟨q2, rfl, hqq2, hs⟩; have HQq2 := hid hqq2; clear hqq2; have HS := hid hs; clear hs) | (at_builtin; go_must (refine t_app (ts := []) (us := [a]) rfl (.tmp 7) (.tmp 10) rfl HS.out HQq2.out rfl rfl ?_); intro A1 c1 wn hs; have HS := hid hs; clear hs)
     go_upto_region 4 with (go_at_call 35; go_must (refine (t_sign ⟨#[101, 108, 115, 101]⟩ [101, 108, 115, 101] rfl HS.out c).mono ?_); rintro e wn ⟨rfl, hs, hk⟩; have HS := hid hs; clear hs hk)
     go_upto_region 6 with (go_at_call 35; go_must (refine (t_signN ⟨#[105, 102]⟩ [105, 102] rfl HS.out g).mono ?_); rintro e wn ⟨rfl, hs, hk⟩; have HS := hid hs; clear hs hk)
     go_wp2_with first | (go_at_call 38; go_must (refine ((H.block (ts := [a, b]) HS.out hnw).mono fun _ _ x => Res.ok x hw).mono ?_); rintro e wn ⟨q3, rfl, hqq3, hs⟩; have HQq3 := hid hqq3; clear hqq3; have HS := hid hs; clear hs) | (at_builtin; go_must (refine t_app (ts := []) (us := [a, b]) rfl (.tmp 21) (.tmp 24) rfl HS.out HQq3.out rfl rfl ?_); intro A1 c1 wn hs; have HS := hid hs; clear hs) | (go_at_call 21; go_must (refine (t_put (ts := []) (us := [a, b, e]) 10 noB noB 0 (by unfold okI; omega) (by decide) (by decide) (okI0) HS.out).mono ?_); rintro e wn ⟨q9, rfl, hqq9, hs, hk⟩; have HQq9 := hid hqq9; clear hqq9; have HS := hid hs; clear hs hk)
     go_ret
     exact ⟨q9, rfl, HQq9.out, StT.weak HS.out (by omega)⟩

theorem block_ok (f : Nat) (H : ∀ g, g ≤ f → Ctr g) : C1 0 38 (blockF (f + 1)) := by
 refine base1 fun {w rp L l P Na s} h hne => ?_
 have HS := hid h
 clear h
 by_cases c : isSign [123] l = true
 rotate_left
 ·have g := eq_false_of_ne_true c
  have hr : blockF (f + 1) l = .bad := by rw [blockF]; simp [want, g, Pr.bind]
  rw [hr]
  clear hr hne c
  go_enter Try.func38, Try.ntmps38
  go_wp2_with (go_at_call 17; go_must (refine (t_wantN ⟨#[123]⟩ [123] rfl HS.out g).mono ?_); rintro e wn ⟨rfl, hb, hk⟩; unfold stopP; have HB := hid hb; clear hb hk)
  exact ⟨rfl, rfl, HB.out⟩
 have e1 : blockF (f + 1) l = (stmsF f [] l.tail).bind fun ks r => .ok (nd 5 ks) r := by rw [blockF]; simp [want, c, Pr.bind]
 rw [e1] at hne ⊢
 clear e1
 generalize hR : stmsF f [] l.tail = R at hne ⊢
 have HR := hid hR
 have HNE := hid (show R ≠ .out by intro e; rw [e] at hne; exact hne rfl)
 clear hne hR
 go_enter Try.func38, Try.ntmps38
 go_upto_region 3 with (go_at_call 17; go_must (refine (t_want ⟨#[123]⟩ [123] rfl HS.out c).mono ?_); rintro e wn ⟨rfl, hs, hk⟩; have HS := hid hs; clear hs hk)
 go_loopw [3] (fun kv wr => ∃ (g : Nat) (us : List T) (l' : List Tk) (A : Option Addr) (c : Nat), g ≤ f ∧ stmsF g us l' = R ∧ kv = .slice A us.length c ∧ StT w rp L l' P Na us s (.slice A us.length c) (rootsL (P.length + sizeL []) us) wr) (fun _ wr => L.length - atOf wr rp)
 case atStart => exact ⟨f, [], l.tail, none, 0, Nat.le_refl _, HR.out, rfl, StT.weak HS.out (by omega)⟩
 case round =>
  clear HR HS c
  obtain ⟨g, us, l', A, c, hg, hr, rfl, hs⟩ := hrel
  have HS := hid hs
  have HAT := hid hs.at_
  clear hs
  cases g with
  | zero => exact absurd (by rw [← hr, stmsF]) HNE.out
  | succ g =>
   rw [stmsF] at hr
   by_cases d : isSign [125] l' = true
   ·rw [if_pos d] at hr
    have HR := hid hr
    clear hr
    go_wp2_with first | (go_at_call 35; go_must (refine (t_sign ⟨#[125]⟩ [125] rfl HS.out d).mono ?_); rintro e wn ⟨rfl, hs, hk⟩; have HS := hid hs; clear hs hk) | (go_at_call 21; go_must (refine (t_put (ts := []) (us := us) 5 noB noB 0 (by unfold okI; omega) (by decide) (by decide) (okI0) HS.out).mono ?_); rintro e wn ⟨q9, rfl, hqq9, hs, hk⟩; have HQq9 := hid hqq9; clear hqq9; have HS := hid hs; clear hs hk)
    go_ret
    rw [← HR.out]
    exact ⟨q9, rfl, HQq9.out, StT.weak HS.out (by omega)⟩
   have e := eq_false_of_ne_true d
   rw [if_neg d] at hr
   clear d
   by_cases k6 : kindOf l' = 6
   ·rw [if_pos k6] at hr
    have HR := hid hr
    have hl0 := kind_ne k6 (by decide)
    have hlt := kind_pos k6 (by decide)
    clear hr
    go_upto_region 4 with (go_at_call 35; go_must (refine (t_signN ⟨#[125]⟩ [125] rfl HS.out e).mono ?_); rintro e wn ⟨rfl, hs, hk⟩; have HS := hid hs; clear hs hk)
    go_wp2_with (go_at_call 16; go_must (refine (t_kind HS.out).mono ?_); rintro e wn ⟨rfl, hs, hk⟩; rw [k6]; have HS := hid hs; clear hk; have hs := StT.pass hs hl0; obtain ⟨n, n1, p1, p2, p3, p4, p5⟩ := hs; have HP4 := hid p4; clear p4 p5; )
    exact ⟨⟨g, us, l'.tail, A, c, by omega, HR.out, rfl, StT.weak HP4.out (by omega)⟩, by rw [HAT.out, HP4.out.at_]; omega⟩
   rw [if_neg k6] at hr
   obtain ⟨kk, ckk⟩ : ∃ kk, kindOf l' = kk := ⟨_, rfl⟩
   have k1 : (kk == 6) = false := by rw [beq_eq_false_iff_ne]; rw [← ckk]; exact k6
   clear k6
   cases hu : stmF g l' with
   | out => exact absurd (by rw [← hr, hu] <;> rfl) HNE.out
   | bad =>
    have hnu : stmF g l' ≠ .out := by rw [hu]; intro e; cases e
    rw [hu] at hr
    have HR := hid hr
    clear hr
    go_upto_region 4 with (go_at_call 35; go_must (refine (t_signN ⟨#[125]⟩ [125] rfl HS.out e).mono ?_); rintro e wn ⟨rfl, hs, hk⟩; have HS := hid hs; clear hs hk)
    go_upto_region 6 with (go_at_call 16; go_must (refine (t_kind HS.out).mono ?_); rintro e wn ⟨rfl, hs, hk⟩; rw [ckk]; have HS := hid hs; clear hs hk)
    go_wp2_with (go_at_call 50; go_must (refine (((H g (by omega)).stm HS.out hnu).mono fun _ _ x => Res.bad x hu).mono ?_); rintro e wn ⟨rfl, hb⟩; unfold stopP; have HB := hid hb; clear hb)
    rw [← HR.out]
    exact ⟨rfl, rfl, HB.out⟩
   | ok a r2 =>
    have hnu : stmF g l' ≠ .out := by rw [hu]; intro e; cases e
    rw [hu] at hr
    have hlt := stm_lt hu
    by_cases m6 : kindOf r2 = 6
    ·have HR := hid (show stmsF g (us ++ [a]) r2 = R by rw [← hr]; simp [Pr.bind, m6])
     clear hr
     go_upto_region 4 with (go_at_call 35; go_must (refine (t_signN ⟨#[125]⟩ [125] rfl HS.out e).mono ?_); rintro e wn ⟨rfl, hs, hk⟩; have HS := hid hs; clear hs hk)
     go_upto_region 6 with (go_at_call 16; go_must (refine (t_kind HS.out).mono ?_); rintro e wn ⟨rfl, hs, hk⟩; rw [ckk]; have HS := hid hs; clear hs hk)
     go_upto_region 7 with first | (go_at_call 50; go_must (refine (((H g (by omega)).stm HS.out hnu).mono fun _ _ x => Res.ok x hu).mono ?_); rintro e wn ⟨q, rfl, hqq, hs⟩; have HQq := hid hqq; clear hqq; have HS := hid hs; clear hs) | (at_builtin; go_must (refine t_app rfl (.tmp 19) (.tmp 22) rfl (ts := []) (us := us) HS.out HQq.out rfl rfl ?_); intro A1 c1 wn hs; have HS := hid hs; clear hs)
     go_wp2_with (go_at_call 16; go_must (refine (t_kind HS.out).mono ?_); rintro e wn ⟨rfl, hs, hk⟩; rw [m6]; have HS := hid hs; clear hs hk)
     exact ⟨⟨g, us ++ [a], r2, A1, c1, by omega, HR.out, by simp, by rw [List.length_append]; exact StT.weak HS.out (by omega)⟩, by rw [HAT.out, HS.out.at_]; omega⟩
    obtain ⟨mm, cmm⟩ : ∃ mm, kindOf r2 = mm := ⟨_, rfl⟩
    have m1 : (mm == 6) = false := by rw [beq_eq_false_iff_ne]; rw [← cmm]; exact m6
    have m2 : (mm != 6) = true := by rw [bne_iff_ne]; rw [← cmm]; exact m6
    by_cases d : isSign [125] r2 = true
    ·have HR := hid (show stmsF g (us ++ [a]) r2 = R by rw [← hr]; simp [Pr.bind, d])
     clear hr m6
     go_upto_region 4 with (go_at_call 35; go_must (refine (t_signN ⟨#[125]⟩ [125] rfl HS.out e).mono ?_); rintro e wn ⟨rfl, hs, hk⟩; have HS := hid hs; clear hs hk)
     go_upto_region 6 with (go_at_call 16; go_must (refine (t_kind HS.out).mono ?_); rintro e wn ⟨rfl, hs, hk⟩; rw [ckk]; have HS := hid hs; clear hs hk)
     go_upto_region 7 with first | (go_at_call 50; go_must (refine (((H g (by omega)).stm HS.out hnu).mono fun _ _ x => Res.ok x hu).mono ?_); rintro e wn ⟨q, rfl, hqq, hs⟩; have HQq := hid hqq; clear hqq; have HS := hid hs; clear hs) | (at_builtin; go_must (refine t_app rfl (.tmp 19) (.tmp 22) rfl (ts := []) (us := us) HS.out HQq.out rfl rfl ?_); intro A1 c1 wn hs; have HS := hid hs; clear hs)
     go_wp2_with first | (go_at_call 16; go_must (refine (t_kind HS.out).mono ?_); rintro e wn ⟨rfl, hs, hk⟩; rw [cmm]; have HS := hid hs; clear hs hk) | (go_at_call 49; go_must (refine (t_looks ⟨#[125]⟩ [125] rfl HS.out).mono ?_); rintro e wn ⟨rfl, hs, hk⟩; rw [d]; have HS := hid hs; clear hs hk)
     exact ⟨⟨g, us ++ [a], r2, A1, c1, by omega, HR.out, by simp, by rw [List.length_append]; exact StT.weak HS.out (by omega)⟩, by rw [HAT.out, HS.out.at_]; omega⟩
    have e2 := eq_false_of_ne_true d
    have HR := hid (show Pr.bad = R by rw [← hr]; simp [Pr.bind, m6, e2])
    clear hr m6 d
    go_upto_region 4 with (go_at_call 35; go_must (refine (t_signN ⟨#[125]⟩ [125] rfl HS.out e).mono ?_); rintro e wn ⟨rfl, hs, hk⟩; have HS := hid hs; clear hs hk)
    go_upto_region 6 with (go_at_call 16; go_must (refine (t_kind HS.out).mono ?_); rintro e wn ⟨rfl, hs, hk⟩; rw [ckk]; have HS := hid hs; clear hs hk)
    go_upto_region 7 with first | (go_at_call 50; go_must (refine (((H g (by omega)).stm HS.out hnu).mono fun _ _ x => Res.ok x hu).mono ?_); rintro e wn ⟨q, rfl, hqq, hs⟩; have HQq := hid hqq; clear hqq; have HS := hid hs; clear hs) | (at_builtin; go_must (refine t_app rfl (.tmp 19) (.tmp 22) rfl (ts := []) (us := us) HS.out HQq.out rfl rfl ?_); intro A1 c1 wn hs; have HS := hid hs; clear hs)
    go_wp2_with first | (go_at_call 16; go_must (refine (t_kind HS.out).mono ?_); rintro e wn ⟨rfl, hs, hk⟩; rw [cmm]; have HS := hid hs; clear hs hk) | (go_at_call 49; go_must (refine (t_looks ⟨#[125]⟩ [125] rfl HS.out).mono ?_); rintro e wn ⟨rfl, hs, hk⟩; rw [e2]; have HS := hid hs; clear hs hk) | (go_at_call 20; go_must (refine (fail_any _ _).mono ?_); rintro e wn ⟨rfl, hk⟩; unfold stopP; have HB := hid (HS.out.belowK hk); clear hk)
    rw [← HR.out]
    exact ⟨rfl, rfl, HB.out⟩

theorem stm_ok (f : Nat) (H : Ctr f) : C1 0 50 (stmF (f + 1)) := by
 refine base1 fun {w rp L l P Na s} h hne => ?_
 have HS := hid h
 clear h
 by_cases c1 : isSign [123] l = true
 ·cases hu : blockF f l with
  | out => exact absurd (by rw [stmF]; simp [c1, hu, nmM, nd, Pr.bind]) hne
  | bad =>
   have hnu : blockF f l ≠ .out := by rw [hu]; intro e; cases e
   have hr : stmF (f + 1) l = .bad := by rw [stmF]; simp [c1, hu, nmM, nd, Pr.bind]
   rw [hr]
   clear hr hne
   go_enter Try.func50, Try.ntmps50
   go_upto_region 2 with (go_at_call 49; go_must (refine (t_looks ⟨#[123]⟩ [123] rfl HS.out).mono ?_); rintro e wn ⟨rfl, hs, hk⟩; rw [c1]; have HS := hid hs; clear hs hk)
   go_wp2_with (go_at_call 38; go_must (refine ((H.block HS.out hnu).mono fun _ _ x => Res.bad x hu).mono ?_); rintro e wn ⟨rfl, hb⟩; unfold stopP; have HB := hid hb; clear hb)
   exact ⟨rfl, rfl, HB.out⟩
  | ok a r =>
   have hnu : blockF f l ≠ .out := by rw [hu]; intro e; cases e
   have hr : stmF (f + 1) l = .ok a r := by rw [stmF]; simp [c1, hu, nmM, nd, Pr.bind]
   rw [hr]
   clear hr hne
   go_enter Try.func50, Try.ntmps50
   go_upto_region 2 with (go_at_call 49; go_must (refine (t_looks ⟨#[123]⟩ [123] rfl HS.out).mono ?_); rintro e wn ⟨rfl, hs, hk⟩; rw [c1]; have HS := hid hs; clear hs hk)
   go_wp2_with (go_at_call 38; go_must (refine ((H.block HS.out hnu).mono fun _ _ x => Res.ok x hu).mono ?_); rintro e wn ⟨q9, rfl, hqq9, hs⟩; have HQq9 := hid hqq9; clear hqq9; have HS := hid hs; clear hs)
   go_ret
   exact ⟨q9, rfl, HQq9.out, StT.weak HS.out (by omega)⟩
 have g1 := eq_false_of_ne_true c1
 clear c1
 by_cases c2 : isSign kVar l = true
 ·by_cases c1 : kindOf l.tail = 1
  rotate_left
  ·have hr : stmF (f + 1) l = .bad := by rw [stmF]; simp [g1, c2, c1, nmM, nd, Pr.bind]
   rw [hr]
   clear hr hne
   go_enter Try.func50, Try.ntmps50
   go_upto_region 3 with (go_at_call 49; go_must (refine (t_looks ⟨#[123]⟩ [123] rfl HS.out).mono ?_); rintro e wn ⟨rfl, hs, hk⟩; rw [g1]; have HS := hid hs; clear hs hk)
   go_upto_region 4 with (go_at_call 35; go_must (refine (t_sign ⟨#[118, 97, 114]⟩ [118, 97, 114] rfl HS.out c2).mono ?_); rintro e wn ⟨rfl, hs, hk⟩; have HS := hid hs; clear hs hk)
   go_wp2_with (go_at_call 18; go_must (refine (t_nameN HS.out c1).mono ?_); rintro e wn ⟨rfl, hb, hk⟩; unfold stopP; have HB := hid hb; clear hb hk)
   exact ⟨rfl, rfl, HB.out⟩
  cases hu : typF f l.tail.tail with
  | out => exact absurd (by rw [stmF]; simp [g1, c2, c1, hu, nmM, nd, Pr.bind]) hne
  | bad =>
   have hnu : typF f l.tail.tail ≠ .out := by rw [hu]; intro e; cases e
   have hr : stmF (f + 1) l = .bad := by rw [stmF]; simp [g1, c2, c1, hu, nmM, nd, Pr.bind]
   rw [hr]
   clear hr hne
   go_enter Try.func50, Try.ntmps50
   go_upto_region 3 with (go_at_call 49; go_must (refine (t_looks ⟨#[123]⟩ [123] rfl HS.out).mono ?_); rintro e wn ⟨rfl, hs, hk⟩; rw [g1]; have HS := hid hs; clear hs hk)
   go_upto_region 4 with (go_at_call 35; go_must (refine (t_sign ⟨#[118, 97, 114]⟩ [118, 97, 114] rfl HS.out c2).mono ?_); rintro e wn ⟨rfl, hs, hk⟩; have HS := hid hs; clear hs hk)
   have htx := HS.out.text_ok
   go_upto_region 5 with (go_at_call 18; go_must (refine (t_name HS.out c1).mono ?_); rintro e wn ⟨rfl, hs, hk⟩; have HS := hid hs; clear hs hk)
   go_wp2_with (go_at_call 36; go_must (refine (((typ_ok f) HS.out hnu).mono fun _ _ x => ResY.bad x hu).mono ?_); rintro e wn ⟨rfl, hb⟩; unfold stopP; have HB := hid hb; clear hb)
   exact ⟨rfl, rfl, HB.out⟩
  | ok ty r =>
   have hnu : typF f l.tail.tail ≠ .out := by rw [hu]; intro e; cases e
   have hr : stmF (f + 1) l = .ok (.node 6 (textOf l.tail) (sB ty) 0 []) r := by rw [stmF]; simp [g1, c2, c1, hu, nmM, nd, Pr.bind]
   rw [hr]
   clear hr hne
   go_enter Try.func50, Try.ntmps50
   go_upto_region 3 with (go_at_call 49; go_must (refine (t_looks ⟨#[123]⟩ [123] rfl HS.out).mono ?_); rintro e wn ⟨rfl, hs, hk⟩; rw [g1]; have HS := hid hs; clear hs hk)
   go_upto_region 4 with (go_at_call 35; go_must (refine (t_sign ⟨#[118, 97, 114]⟩ [118, 97, 114] rfl HS.out c2).mono ?_); rintro e wn ⟨rfl, hs, hk⟩; have HS := hid hs; clear hs hk)
   have htx := HS.out.text_ok
   go_upto_region 5 with (go_at_call 18; go_must (refine (t_name HS.out c1).mono ?_); rintro e wn ⟨rfl, hs, hk⟩; have HS := hid hs; clear hs hk)
   go_wp2_with first | (go_at_call 36; go_must (refine (((typ_ok f) HS.out hnu).mono fun _ _ x => ResY.ok x hu).mono ?_); rintro e wn ⟨rfl, hz, hs, hk⟩; have HZ := hid hz; clear hz; have HS := hid hs; clear hs hk) | (go_at_call 21; go_must (refine (t_put (ts := []) (us := []) 6 (textOf l.tail) (sB ty) 0 (by unfold okI; omega) (htx) (Nat.le_trans HZ.out (by decide)) (okI0) HS.out).mono ?_); rintro e wn ⟨q9, rfl, hqq9, hs, hk⟩; have HQq9 := hid hqq9; clear hqq9; have HS := hid hs; clear hs hk)
   go_ret
   exact ⟨q9, rfl, HQq9.out, StT.weak HS.out (by omega)⟩
 have g2 := eq_false_of_ne_true c2
 clear c2
 by_cases c3 : isSign kIf l = true
 ·cases hu : ifsF f l.tail with
  | out => exact absurd (by rw [stmF]; simp [g1, g2, c3, hu, nmM, nd, Pr.bind]) hne
  | bad =>
   have hnu : ifsF f l.tail ≠ .out := by rw [hu]; intro e; cases e
   have hr : stmF (f + 1) l = .bad := by rw [stmF]; simp [g1, g2, c3, hu, nmM, nd, Pr.bind]
   rw [hr]
   clear hr hne
   go_enter Try.func50, Try.ntmps50
   go_upto_region 3 with (go_at_call 49; go_must (refine (t_looks ⟨#[123]⟩ [123] rfl HS.out).mono ?_); rintro e wn ⟨rfl, hs, hk⟩; rw [g1]; have HS := hid hs; clear hs hk)
   go_upto_region 6 with (go_at_call 35; go_must (refine (t_signN ⟨#[118, 97, 114]⟩ [118, 97, 114] rfl HS.out g2).mono ?_); rintro e wn ⟨rfl, hs, hk⟩; have HS := hid hs; clear hs hk)
   go_upto_region 7 with (go_at_call 35; go_must (refine (t_sign ⟨#[105, 102]⟩ [105, 102] rfl HS.out c3).mono ?_); rintro e wn ⟨rfl, hs, hk⟩; have HS := hid hs; clear hs hk)
   go_wp2_with (go_at_call 60; go_must (refine ((H.ifs HS.out hnu).mono fun _ _ x => Res.bad x hu).mono ?_); rintro e wn ⟨rfl, hb⟩; unfold stopP; have HB := hid hb; clear hb)
   exact ⟨rfl, rfl, HB.out⟩
  | ok a r =>
   have hnu : ifsF f l.tail ≠ .out := by rw [hu]; intro e; cases e
   have hr : stmF (f + 1) l = .ok a r := by rw [stmF]; simp [g1, g2, c3, hu, nmM, nd, Pr.bind]
   rw [hr]
   clear hr hne
   go_enter Try.func50, Try.ntmps50
   go_upto_region 3 with (go_at_call 49; go_must (refine (t_looks ⟨#[123]⟩ [123] rfl HS.out).mono ?_); rintro e wn ⟨rfl, hs, hk⟩; rw [g1]; have HS := hid hs; clear hs hk)
   go_upto_region 6 with (go_at_call 35; go_must (refine (t_signN ⟨#[118, 97, 114]⟩ [118, 97, 114] rfl HS.out g2).mono ?_); rintro e wn ⟨rfl, hs, hk⟩; have HS := hid hs; clear hs hk)
   go_upto_region 7 with (go_at_call 35; go_must (refine (t_sign ⟨#[105, 102]⟩ [105, 102] rfl HS.out c3).mono ?_); rintro e wn ⟨rfl, hs, hk⟩; have HS := hid hs; clear hs hk)
   go_wp2_with (go_at_call 60; go_must (refine ((H.ifs HS.out hnu).mono fun _ _ x => Res.ok x hu).mono ?_); rintro e wn ⟨q9, rfl, hqq9, hs⟩; have HQq9 := hid hqq9; clear hqq9; have HS := hid hs; clear hs)
   go_ret
   exact ⟨q9, rfl, HQq9.out, StT.weak HS.out (by omega)⟩
 have g3 := eq_false_of_ne_true c3
 clear c3
 by_cases c4 : isSign kFor l = true
 ·by_cases d : isSign [123] l.tail = true
  ·cases hv : blockF f l.tail with
   | out => exact absurd (by rw [stmF]; simp [g1, g2, g3, c4, d, hv, nmM, nd, Pr.bind]) hne
   | bad =>
    have hnv : blockF f l.tail ≠ .out := by rw [hv]; intro e; cases e
    have hr : stmF (f + 1) l = .bad := by rw [stmF]; simp [g1, g2, g3, c4, d, hv, nmM, nd, Pr.bind]
    rw [hr]
    clear hr hne
    go_enter Try.func50, Try.ntmps50
    go_upto_region 3 with (go_at_call 49; go_must (refine (t_looks ⟨#[123]⟩ [123] rfl HS.out).mono ?_); rintro e wn ⟨rfl, hs, hk⟩; rw [g1]; have HS := hid hs; clear hs hk)
    go_upto_region 6 with (go_at_call 35; go_must (refine (t_signN ⟨#[118, 97, 114]⟩ [118, 97, 114] rfl HS.out g2).mono ?_); rintro e wn ⟨rfl, hs, hk⟩; have HS := hid hs; clear hs hk)
    go_upto_region 8 with (go_at_call 35; go_must (refine (t_signN ⟨#[105, 102]⟩ [105, 102] rfl HS.out g3).mono ?_); rintro e wn ⟨rfl, hs, hk⟩; have HS := hid hs; clear hs hk)
    go_upto_region 10 with (go_at_call 35; go_must (refine (t_sign ⟨#[102, 111, 114]⟩ [102, 111, 114] rfl HS.out c4).mono ?_); rintro e wn ⟨rfl, hs, hk⟩; have HS := hid hs; clear hs hk)
    go_upto_region 12 with (go_at_call 49; go_must (refine (t_looks ⟨#[123]⟩ [123] rfl HS.out).mono ?_); rintro e wn ⟨rfl, hs, hk⟩; rw [d]; have HS := hid hs; clear hs hk)
    go_wp2_with (go_at_call 38; go_must (refine ((H.block (ts := []) HS.out hnv).mono fun _ _ x => Res.bad x hv).mono ?_); rintro e wn ⟨rfl, hb⟩; unfold stopP; have HB := hid hb; clear hb)
    exact ⟨rfl, rfl, HB.out⟩
   | ok b r2 =>
    have hnv : blockF f l.tail ≠ .out := by rw [hv]; intro e; cases e
    have hr : stmF (f + 1) l = .ok (nd 11 [b]) r2 := by rw [stmF]; simp [g1, g2, g3, c4, d, hv, nmM, nd, Pr.bind]
    rw [hr]
    clear hr hne
    go_enter Try.func50, Try.ntmps50
    go_upto_region 3 with (go_at_call 49; go_must (refine (t_looks ⟨#[123]⟩ [123] rfl HS.out).mono ?_); rintro e wn ⟨rfl, hs, hk⟩; rw [g1]; have HS := hid hs; clear hs hk)
    go_upto_region 6 with (go_at_call 35; go_must (refine (t_signN ⟨#[118, 97, 114]⟩ [118, 97, 114] rfl HS.out g2).mono ?_); rintro e wn ⟨rfl, hs, hk⟩; have HS := hid hs; clear hs hk)
    go_upto_region 8 with (go_at_call 35; go_must (refine (t_signN ⟨#[105, 102]⟩ [105, 102] rfl HS.out g3).mono ?_); rintro e wn ⟨rfl, hs, hk⟩; have HS := hid hs; clear hs hk)
    go_upto_region 10 with (go_at_call 35; go_must (refine (t_sign ⟨#[102, 111, 114]⟩ [102, 111, 114] rfl HS.out c4).mono ?_); rintro e wn ⟨rfl, hs, hk⟩; have HS := hid hs; clear hs hk)
    go_upto_region 12 with (go_at_call 49; go_must (refine (t_looks ⟨#[123]⟩ [123] rfl HS.out).mono ?_); rintro e wn ⟨rfl, hs, hk⟩; rw [d]; have HS := hid hs; clear hs hk)
    go_wp2_with first | (go_at_call 38; go_must (refine ((H.block (ts := []) HS.out hnv).mono fun _ _ x => Res.ok x hv).mono ?_); rintro e wn ⟨q2, rfl, hqq2, hs⟩; have HQq2 := hid hqq2; clear hqq2; have HS := hid hs; clear hs) | (at_builtin; go_must (refine t_app (ts := []) (us := []) rfl (.tmp 39) (.tmp 42) rfl HS.out HQq2.out rfl rfl ?_); intro A1 c1 wn hs; have HS := hid hs; clear hs) | (go_at_call 21; go_must (refine (t_put (ts := []) (us := [b]) 11 noB noB 0 (by unfold okI; omega) (by decide) (by decide) (okI0) HS.out).mono ?_); rintro e wn ⟨q9, rfl, hqq9, hs, hk⟩; have HQq9 := hid hqq9; clear hqq9; have HS := hid hs; clear hs hk)
    go_ret
    exact ⟨q9, rfl, HQq9.out, StT.weak HS.out (by omega)⟩
  have g := eq_false_of_ne_true d
  clear d
  cases hu : exprF f 1 l.tail with
  | out => exact absurd (by rw [stmF]; simp [g1, g2, g3, c4, g, hu, nmM, nd, Pr.bind]) hne
  | bad =>
   have hnu : exprF f 1 l.tail ≠ .out := by rw [hu]; intro e; cases e
   have hr : stmF (f + 1) l = .bad := by rw [stmF]; simp [g1, g2, g3, c4, g, hu, nmM, nd, Pr.bind]
   rw [hr]
   clear hr hne
   go_enter Try.func50, Try.ntmps50
   go_upto_region 3 with (go_at_call 49; go_must (refine (t_looks ⟨#[123]⟩ [123] rfl HS.out).mono ?_); rintro e wn ⟨rfl, hs, hk⟩; rw [g1]; have HS := hid hs; clear hs hk)
   go_upto_region 6 with (go_at_call 35; go_must (refine (t_signN ⟨#[118, 97, 114]⟩ [118, 97, 114] rfl HS.out g2).mono ?_); rintro e wn ⟨rfl, hs, hk⟩; have HS := hid hs; clear hs hk)
   go_upto_region 8 with (go_at_call 35; go_must (refine (t_signN ⟨#[105, 102]⟩ [105, 102] rfl HS.out g3).mono ?_); rintro e wn ⟨rfl, hs, hk⟩; have HS := hid hs; clear hs hk)
   go_upto_region 10 with (go_at_call 35; go_must (refine (t_sign ⟨#[102, 111, 114]⟩ [102, 111, 114] rfl HS.out c4).mono ?_); rintro e wn ⟨rfl, hs, hk⟩; have HS := hid hs; clear hs hk)
   go_wp2_with first | (go_at_call 49; go_must (refine (t_looks ⟨#[123]⟩ [123] rfl HS.out).mono ?_); rintro e wn ⟨rfl, hs, hk⟩; rw [g]; have HS := hid hs; clear hs hk) | (go_at_call 61; go_must (refine ((H.expr (ts := []) 1 (by omega) HS.out hnu).mono fun _ _ x => Res.bad x hu).mono ?_); rintro e wn ⟨rfl, hb⟩; unfold stopP; have HB := hid hb; clear hb)
   exact ⟨rfl, rfl, HB.out⟩
  | ok a r =>
   have hnu : exprF f 1 l.tail ≠ .out := by rw [hu]; intro e; cases e
   cases hv : blockF f r with
   | out => exact absurd (by rw [stmF]; simp [g1, g2, g3, c4, g, hu, hv, nmM, nd, Pr.bind]) hne
   | bad =>
    have hnv : blockF f r ≠ .out := by rw [hv]; intro e; cases e
    have hr : stmF (f + 1) l = .bad := by rw [stmF]; simp [g1, g2, g3, c4, g, hu, hv, nmM, nd, Pr.bind]
    rw [hr]
    clear hr hne
    go_enter Try.func50, Try.ntmps50
    go_upto_region 3 with (go_at_call 49; go_must (refine (t_looks ⟨#[123]⟩ [123] rfl HS.out).mono ?_); rintro e wn ⟨rfl, hs, hk⟩; rw [g1]; have HS := hid hs; clear hs hk)
    go_upto_region 6 with (go_at_call 35; go_must (refine (t_signN ⟨#[118, 97, 114]⟩ [118, 97, 114] rfl HS.out g2).mono ?_); rintro e wn ⟨rfl, hs, hk⟩; have HS := hid hs; clear hs hk)
    go_upto_region 8 with (go_at_call 35; go_must (refine (t_signN ⟨#[105, 102]⟩ [105, 102] rfl HS.out g3).mono ?_); rintro e wn ⟨rfl, hs, hk⟩; have HS := hid hs; clear hs hk)
    go_upto_region 10 with (go_at_call 35; go_must (refine (t_sign ⟨#[102, 111, 114]⟩ [102, 111, 114] rfl HS.out c4).mono ?_); rintro e wn ⟨rfl, hs, hk⟩; have HS := hid hs; clear hs hk)
    go_upto_region 12 with first | (go_at_call 49; go_must (refine (t_looks ⟨#[123]⟩ [123] rfl HS.out).mono ?_); rintro e wn ⟨rfl, hs, hk⟩; rw [g]; have HS := hid hs; clear hs hk) | (go_at_call 61; go_must (refine ((H.expr (ts := []) 1 (by omega) HS.out hnu).mono fun _ _ x => Res.ok x hu).mono ?_); rintro e wn ⟨q, rfl, hqq, hs⟩; have HQq := hid hqq; clear hqq; have HS := hid hs; clear hs) | (at_builtin; go_must (refine t_app (ts := []) (us := []) rfl (.tmp 34) (.tmp 37) rfl HS.out HQq.out rfl rfl ?_); intro A1 c1 wn hs; have HS := hid hs; clear hs)
    go_wp2_with (go_at_call 38; go_must (refine ((H.block (ts := [a]) HS.out hnv).mono fun _ _ x => Res.bad x hv).mono ?_); rintro e wn ⟨rfl, hb⟩; unfold stopP; have HB := hid hb; clear hb)
    exact ⟨rfl, rfl, HB.out⟩
   | ok b r2 =>
    have hnv : blockF f r ≠ .out := by rw [hv]; intro e; cases e
    have hr : stmF (f + 1) l = .ok (nd 11 [a, b]) r2 := by rw [stmF]; simp [g1, g2, g3, c4, g, hu, hv, nmM, nd, Pr.bind]
    rw [hr]
    clear hr hne
    go_enter Try.func50, Try.ntmps50
    go_upto_region 3 with (go_at_call 49; go_must (refine (t_looks ⟨#[123]⟩ [123] rfl HS.out).mono ?_); rintro e wn ⟨rfl, hs, hk⟩; rw [g1]; have HS := hid hs; clear hs hk)
    go_upto_region 6 with (go_at_call 35; go_must (refine (t_signN ⟨#[118, 97, 114]⟩ [118, 97, 114] rfl HS.out g2).mono ?_); rintro e wn ⟨rfl, hs, hk⟩; have HS := hid hs; clear hs hk)
    go_upto_region 8 with (go_at_call 35; go_must (refine (t_signN ⟨#[105, 102]⟩ [105, 102] rfl HS.out g3).mono ?_); rintro e wn ⟨rfl, hs, hk⟩; have HS := hid hs; clear hs hk)
    go_upto_region 10 with (go_at_call 35; go_must (refine (t_sign ⟨#[102, 111, 114]⟩ [102, 111, 114] rfl HS.out c4).mono ?_); rintro e wn ⟨rfl, hs, hk⟩; have HS := hid hs; clear hs hk)
    go_upto_region 12 with first | (go_at_call 49; go_must (refine (t_looks ⟨#[123]⟩ [123] rfl HS.out).mono ?_); rintro e wn ⟨rfl, hs, hk⟩; rw [g]; have HS := hid hs; clear hs hk) | (go_at_call 61; go_must (refine ((H.expr (ts := []) 1 (by omega) HS.out hnu).mono fun _ _ x => Res.ok x hu).mono ?_); rintro e wn ⟨q, rfl, hqq, hs⟩; have HQq := hid hqq; clear hqq; have HS := hid hs; clear hs) | (at_builtin; go_must (refine t_app (ts := []) (us := []) rfl (.tmp 34) (.tmp 37) rfl HS.out HQq.out rfl rfl ?_); intro A1 c1 wn hs; have HS := hid hs; clear hs)
    go_wp2_with first | (go_at_call 38; go_must (refine ((H.block (ts := [a]) HS.out hnv).mono fun _ _ x => Res.ok x hv).mono ?_); rintro e wn ⟨q2, rfl, hqq2, hs⟩; have HQq2 := hid hqq2; clear hqq2; have HS := hid hs; clear hs) | (at_builtin; go_must (refine t_app (ts := []) (us := [a]) rfl (.tmp 39) (.tmp 42) rfl HS.out HQq2.out rfl rfl ?_); intro A1 c1 wn hs; have HS := hid hs; clear hs) | (go_at_call 21; go_must (refine (t_put (ts := []) (us := [a, b]) 11 noB noB 0 (by unfold okI; omega) (by decide) (by decide) (okI0) HS.out).mono ?_); rintro e wn ⟨q9, rfl, hqq9, hs, hk⟩; have HQq9 := hid hqq9; clear hqq9; have HS := hid hs; clear hs hk)
    go_ret
    exact ⟨q9, rfl, HQq9.out, StT.weak HS.out (by omega)⟩
 have g4 := eq_false_of_ne_true c4
 clear c4
 by_cases c5 : isSign kBreak l = true
 ·have hr : stmF (f + 1) l = .ok (nd 12 []) l.tail := by rw [stmF]; simp [g1, g2, g3, g4, c5, nmM, nd, Pr.bind]
  rw [hr]
  clear hr hne
  go_enter Try.func50, Try.ntmps50
  go_upto_region 3 with (go_at_call 49; go_must (refine (t_looks ⟨#[123]⟩ [123] rfl HS.out).mono ?_); rintro e wn ⟨rfl, hs, hk⟩; rw [g1]; have HS := hid hs; clear hs hk)
  go_upto_region 6 with (go_at_call 35; go_must (refine (t_signN ⟨#[118, 97, 114]⟩ [118, 97, 114] rfl HS.out g2).mono ?_); rintro e wn ⟨rfl, hs, hk⟩; have HS := hid hs; clear hs hk)
  go_upto_region 8 with (go_at_call 35; go_must (refine (t_signN ⟨#[105, 102]⟩ [105, 102] rfl HS.out g3).mono ?_); rintro e wn ⟨rfl, hs, hk⟩; have HS := hid hs; clear hs hk)
  go_upto_region 14 with (go_at_call 35; go_must (refine (t_signN ⟨#[102, 111, 114]⟩ [102, 111, 114] rfl HS.out g4).mono ?_); rintro e wn ⟨rfl, hs, hk⟩; have HS := hid hs; clear hs hk)
  go_upto_region 15 with (go_at_call 35; go_must (refine (t_sign ⟨#[98, 114, 101, 97, 107]⟩ [98, 114, 101, 97, 107] rfl HS.out c5).mono ?_); rintro e wn ⟨rfl, hs, hk⟩; have HS := hid hs; clear hs hk)
  go_wp2_with (go_at_call 21; go_must (refine (t_put (ts := []) (us := []) 12 noB noB 0 (by unfold okI; omega) (by decide) (by decide) (okI0) HS.out).mono ?_); rintro e wn ⟨q9, rfl, hqq9, hs, hk⟩; have HQq9 := hid hqq9; clear hqq9; have HS := hid hs; clear hs hk)
  go_ret
  exact ⟨q9, rfl, HQq9.out, StT.weak HS.out (by omega)⟩
 have g5 := eq_false_of_ne_true c5
 clear c5
 by_cases c6 : isSign kContinue l = true
 ·have hr : stmF (f + 1) l = .ok (nd 13 []) l.tail := by rw [stmF]; simp [g1, g2, g3, g4, g5, c6, nmM, nd, Pr.bind]
  rw [hr]
  clear hr hne
  go_enter Try.func50, Try.ntmps50
  go_upto_region 3 with (go_at_call 49; go_must (refine (t_looks ⟨#[123]⟩ [123] rfl HS.out).mono ?_); rintro e wn ⟨rfl, hs, hk⟩; rw [g1]; have HS := hid hs; clear hs hk)
  go_upto_region 6 with (go_at_call 35; go_must (refine (t_signN ⟨#[118, 97, 114]⟩ [118, 97, 114] rfl HS.out g2).mono ?_); rintro e wn ⟨rfl, hs, hk⟩; have HS := hid hs; clear hs hk)
  go_upto_region 8 with (go_at_call 35; go_must (refine (t_signN ⟨#[105, 102]⟩ [105, 102] rfl HS.out g3).mono ?_); rintro e wn ⟨rfl, hs, hk⟩; have HS := hid hs; clear hs hk)
  go_upto_region 14 with (go_at_call 35; go_must (refine (t_signN ⟨#[102, 111, 114]⟩ [102, 111, 114] rfl HS.out g4).mono ?_); rintro e wn ⟨rfl, hs, hk⟩; have HS := hid hs; clear hs hk)
  go_upto_region 16 with (go_at_call 35; go_must (refine (t_signN ⟨#[98, 114, 101, 97, 107]⟩ [98, 114, 101, 97, 107] rfl HS.out g5).mono ?_); rintro e wn ⟨rfl, hs, hk⟩; have HS := hid hs; clear hs hk)
  go_upto_region 17 with (go_at_call 35; go_must (refine (t_sign ⟨#[99, 111, 110, 116, 105, 110, 117, 101]⟩ [99, 111, 110, 116, 105, 110, 117, 101] rfl HS.out c6).mono ?_); rintro e wn ⟨rfl, hs, hk⟩; have HS := hid hs; clear hs hk)
  go_wp2_with (go_at_call 21; go_must (refine (t_put (ts := []) (us := []) 13 noB noB 0 (by unfold okI; omega) (by decide) (by decide) (okI0) HS.out).mono ?_); rintro e wn ⟨q9, rfl, hqq9, hs, hk⟩; have HQq9 := hid hqq9; clear hqq9; have HS := hid hs; clear hs hk)
  go_ret
  exact ⟨q9, rfl, HQq9.out, StT.weak HS.out (by omega)⟩
 have g6 := eq_false_of_ne_true c6
 clear c6
 by_cases c7 : isSign kReturn l = true
 ·by_cases d : kindOf l.tail = 6
  ·have hr : stmF (f + 1) l = .ok (nd 14 []) l.tail := by rw [stmF]; simp [g1, g2, g3, g4, g5, g6, c7, d, nmM, nd, Pr.bind]
   rw [hr]
   clear hr hne
   go_enter Try.func50, Try.ntmps50
   go_upto_region 3 with (go_at_call 49; go_must (refine (t_looks ⟨#[123]⟩ [123] rfl HS.out).mono ?_); rintro e wn ⟨rfl, hs, hk⟩; rw [g1]; have HS := hid hs; clear hs hk)
   go_upto_region 6 with (go_at_call 35; go_must (refine (t_signN ⟨#[118, 97, 114]⟩ [118, 97, 114] rfl HS.out g2).mono ?_); rintro e wn ⟨rfl, hs, hk⟩; have HS := hid hs; clear hs hk)
   go_upto_region 8 with (go_at_call 35; go_must (refine (t_signN ⟨#[105, 102]⟩ [105, 102] rfl HS.out g3).mono ?_); rintro e wn ⟨rfl, hs, hk⟩; have HS := hid hs; clear hs hk)
   go_upto_region 14 with (go_at_call 35; go_must (refine (t_signN ⟨#[102, 111, 114]⟩ [102, 111, 114] rfl HS.out g4).mono ?_); rintro e wn ⟨rfl, hs, hk⟩; have HS := hid hs; clear hs hk)
   go_upto_region 16 with (go_at_call 35; go_must (refine (t_signN ⟨#[98, 114, 101, 97, 107]⟩ [98, 114, 101, 97, 107] rfl HS.out g5).mono ?_); rintro e wn ⟨rfl, hs, hk⟩; have HS := hid hs; clear hs hk)
   go_upto_region 18 with (go_at_call 35; go_must (refine (t_signN ⟨#[99, 111, 110, 116, 105, 110, 117, 101]⟩ [99, 111, 110, 116, 105, 110, 117, 101] rfl HS.out g6).mono ?_); rintro e wn ⟨rfl, hs, hk⟩; have HS := hid hs; clear hs hk)
   go_upto_region 20 with (go_at_call 35; go_must (refine (t_sign ⟨#[114, 101, 116, 117, 114, 110]⟩ [114, 101, 116, 117, 114, 110] rfl HS.out c7).mono ?_); rintro e wn ⟨rfl, hs, hk⟩; have HS := hid hs; clear hs hk)
   go_upto_region 22 with (go_at_call 16; go_must (refine (t_kind HS.out).mono ?_); rintro e wn ⟨rfl, hs, hk⟩; rw [d]; have HS := hid hs; clear hs hk)
   go_wp2_with (go_at_call 21; go_must (refine (t_put (ts := []) (us := []) 14 noB noB 0 (by unfold okI; omega) (by decide) (by decide) (okI0) HS.out).mono ?_); rintro e wn ⟨q9, rfl, hqq9, hs, hk⟩; have HQq9 := hid hqq9; clear hqq9; have HS := hid hs; clear hs hk)
   go_ret
   exact ⟨q9, rfl, HQq9.out, StT.weak HS.out (by omega)⟩
  obtain ⟨mm, cmm⟩ : ∃ mm, kindOf l.tail = mm := ⟨_, rfl⟩
  have m1 : (mm == 6) = false := by rw [beq_eq_false_iff_ne]; rw [← cmm]; exact d
  have m2 : (mm != 6) = true := by rw [bne_iff_ne]; rw [← cmm]; exact d
  by_cases d2 : isSign [125] l.tail = true
  ·have hr : stmF (f + 1) l = .ok (nd 14 []) l.tail := by rw [stmF]; simp [g1, g2, g3, g4, g5, g6, c7, d2, nmM, nd, Pr.bind]
   rw [hr]
   clear hr hne
   go_enter Try.func50, Try.ntmps50
   go_upto_region 3 with (go_at_call 49; go_must (refine (t_looks ⟨#[123]⟩ [123] rfl HS.out).mono ?_); rintro e wn ⟨rfl, hs, hk⟩; rw [g1]; have HS := hid hs; clear hs hk)
   go_upto_region 6 with (go_at_call 35; go_must (refine (t_signN ⟨#[118, 97, 114]⟩ [118, 97, 114] rfl HS.out g2).mono ?_); rintro e wn ⟨rfl, hs, hk⟩; have HS := hid hs; clear hs hk)
   go_upto_region 8 with (go_at_call 35; go_must (refine (t_signN ⟨#[105, 102]⟩ [105, 102] rfl HS.out g3).mono ?_); rintro e wn ⟨rfl, hs, hk⟩; have HS := hid hs; clear hs hk)
   go_upto_region 14 with (go_at_call 35; go_must (refine (t_signN ⟨#[102, 111, 114]⟩ [102, 111, 114] rfl HS.out g4).mono ?_); rintro e wn ⟨rfl, hs, hk⟩; have HS := hid hs; clear hs hk)
   go_upto_region 16 with (go_at_call 35; go_must (refine (t_signN ⟨#[98, 114, 101, 97, 107]⟩ [98, 114, 101, 97, 107] rfl HS.out g5).mono ?_); rintro e wn ⟨rfl, hs, hk⟩; have HS := hid hs; clear hs hk)
   go_upto_region 18 with (go_at_call 35; go_must (refine (t_signN ⟨#[99, 111, 110, 116, 105, 110, 117, 101]⟩ [99, 111, 110, 116, 105, 110, 117, 101] rfl HS.out g6).mono ?_); rintro e wn ⟨rfl, hs, hk⟩; have HS := hid hs; clear hs hk)
   go_upto_region 20 with (go_at_call 35; go_must (refine (t_sign ⟨#[114, 101, 116, 117, 114, 110]⟩ [114, 101, 116, 117, 114, 110] rfl HS.out c7).mono ?_); rintro e wn ⟨rfl, hs, hk⟩; have HS := hid hs; clear hs hk)
   go_upto_region 22 with first | (go_at_call 16; go_must (refine (t_kind HS.out).mono ?_); rintro e wn ⟨rfl, hs, hk⟩; rw [cmm]; have HS := hid hs; clear hs hk) | (go_at_call 49; go_must (refine (t_looks ⟨#[125]⟩ [125] rfl HS.out).mono ?_); rintro e wn ⟨rfl, hs, hk⟩; rw [d2]; have HS := hid hs; clear hs hk)
   go_wp2_with (go_at_call 21; go_must (refine (t_put (ts := []) (us := []) 14 noB noB 0 (by unfold okI; omega) (by decide) (by decide) (okI0) HS.out).mono ?_); rintro e wn ⟨q9, rfl, hqq9, hs, hk⟩; have HQq9 := hid hqq9; clear hqq9; have HS := hid hs; clear hs hk)
   go_ret
   exact ⟨q9, rfl, HQq9.out, StT.weak HS.out (by omega)⟩
  have g := eq_false_of_ne_true d2
  clear d2
  cases hu : exprF f 1 l.tail with
  | out => exact absurd (by rw [stmF]; simp [g1, g2, g3, g4, g5, g6, c7, d, g, hu, nmM, nd, Pr.bind]) hne
  | bad =>
   have hnu : exprF f 1 l.tail ≠ .out := by rw [hu]; intro e; cases e
   have hr : stmF (f + 1) l = .bad := by rw [stmF]; simp [g1, g2, g3, g4, g5, g6, c7, d, g, hu, nmM, nd, Pr.bind]
   rw [hr]
   clear hr hne
   go_enter Try.func50, Try.ntmps50
   go_upto_region 3 with (go_at_call 49; go_must (refine (t_looks ⟨#[123]⟩ [123] rfl HS.out).mono ?_); rintro e wn ⟨rfl, hs, hk⟩; rw [g1]; have HS := hid hs; clear hs hk)
   go_upto_region 6 with (go_at_call 35; go_must (refine (t_signN ⟨#[118, 97, 114]⟩ [118, 97, 114] rfl HS.out g2).mono ?_); rintro e wn ⟨rfl, hs, hk⟩; have HS := hid hs; clear hs hk)
   go_upto_region 8 with (go_at_call 35; go_must (refine (t_signN ⟨#[105, 102]⟩ [105, 102] rfl HS.out g3).mono ?_); rintro e wn ⟨rfl, hs, hk⟩; have HS := hid hs; clear hs hk)
   go_upto_region 14 with (go_at_call 35; go_must (refine (t_signN ⟨#[102, 111, 114]⟩ [102, 111, 114] rfl HS.out g4).mono ?_); rintro e wn ⟨rfl, hs, hk⟩; have HS := hid hs; clear hs hk)
   go_upto_region 16 with (go_at_call 35; go_must (refine (t_signN ⟨#[98, 114, 101, 97, 107]⟩ [98, 114, 101, 97, 107] rfl HS.out g5).mono ?_); rintro e wn ⟨rfl, hs, hk⟩; have HS := hid hs; clear hs hk)
   go_upto_region 18 with (go_at_call 35; go_must (refine (t_signN ⟨#[99, 111, 110, 116, 105, 110, 117, 101]⟩ [99, 111, 110, 116, 105, 110, 117, 101] rfl HS.out g6).mono ?_); rintro e wn ⟨rfl, hs, hk⟩; have HS := hid hs; clear hs hk)
   go_upto_region 20 with (go_at_call 35; go_must (refine (t_sign ⟨#[114, 101, 116, 117, 114, 110]⟩ [114, 101, 116, 117, 114, 110] rfl HS.out c7).mono ?_); rintro e wn ⟨rfl, hs, hk⟩; have HS := hid hs; clear hs hk)
   go_upto_region 21 with first | (go_at_call 16; go_must (refine (t_kind HS.out).mono ?_); rintro e wn ⟨rfl, hs, hk⟩; rw [cmm]; have HS := hid hs; clear hs hk) | (go_at_call 49; go_must (refine (t_looks ⟨#[125]⟩ [125] rfl HS.out).mono ?_); rintro e wn ⟨rfl, hs, hk⟩; rw [g]; have HS := hid hs; clear hs hk)
   go_wp2_with (go_at_call 61; go_must (refine ((H.expr (ts := []) 1 (by omega) HS.out hnu).mono fun _ _ x => Res.bad x hu).mono ?_); rintro e wn ⟨rfl, hb⟩; unfold stopP; have HB := hid hb; clear hb)
   exact ⟨rfl, rfl, HB.out⟩
  | ok a r =>
   have hnu : exprF f 1 l.tail ≠ .out := by rw [hu]; intro e; cases e
   have hr : stmF (f + 1) l = .ok (nd 14 [a]) r := by rw [stmF]; simp [g1, g2, g3, g4, g5, g6, c7, d, g, hu, nmM, nd, Pr.bind]
   rw [hr]
   clear hr hne
   go_enter Try.func50, Try.ntmps50
   go_upto_region 3 with (go_at_call 49; go_must (refine (t_looks ⟨#[123]⟩ [123] rfl HS.out).mono ?_); rintro e wn ⟨rfl, hs, hk⟩; rw [g1]; have HS := hid hs; clear hs hk)
   go_upto_region 6 with (go_at_call 35; go_must (refine (t_signN ⟨#[118, 97, 114]⟩ [118, 97, 114] rfl HS.out g2).mono ?_); rintro e wn ⟨rfl, hs, hk⟩; have HS := hid hs; clear hs hk)
   go_upto_region 8 with (go_at_call 35; go_must (refine (t_signN ⟨#[105, 102]⟩ [105, 102] rfl HS.out g3).mono ?_); rintro e wn ⟨rfl, hs, hk⟩; have HS := hid hs; clear hs hk)
   go_upto_region 14 with (go_at_call 35; go_must (refine (t_signN ⟨#[102, 111, 114]⟩ [102, 111, 114] rfl HS.out g4).mono ?_); rintro e wn ⟨rfl, hs, hk⟩; have HS := hid hs; clear hs hk)
   go_upto_region 16 with (go_at_call 35; go_must (refine (t_signN ⟨#[98, 114, 101, 97, 107]⟩ [98, 114, 101, 97, 107] rfl HS.out g5).mono ?_); rintro e wn ⟨rfl, hs, hk⟩; have HS := hid hs; clear hs hk)
   go_upto_region 18 with (go_at_call 35; go_must (refine (t_signN ⟨#[99, 111, 110, 116, 105, 110, 117, 101]⟩ [99, 111, 110, 116, 105, 110, 117, 101] rfl HS.out g6).mono ?_); rintro e wn ⟨rfl, hs, hk⟩; have HS := hid hs; clear hs hk)
   go_upto_region 20 with (go_at_call 35; go_must (refine (t_sign ⟨#[114, 101, 116, 117, 114, 110]⟩ [114, 101, 116, 117, 114, 110] rfl HS.out c7).mono ?_); rintro e wn ⟨rfl, hs, hk⟩; have HS := hid hs; clear hs hk)
   go_upto_region 21 with first | (go_at_call 16; go_must (refine (t_kind HS.out).mono ?_); rintro e wn ⟨rfl, hs, hk⟩; rw [cmm]; have HS := hid hs; clear hs hk) | (go_at_call 49; go_must (refine (t_looks ⟨#[125]⟩ [125] rfl HS.out).mono ?_); rintro e wn ⟨rfl, hs, hk⟩; rw [g]; have HS := hid hs; clear hs hk)
   go_wp2_with first | (go_at_call 61; go_must (refine ((H.expr (ts := []) 1 (by omega) HS.out hnu).mono fun _ _ x => Res.ok x hu).mono ?_); rintro e wn ⟨q, rfl, hqq, hs⟩; have HQq := hid hqq; clear hqq; have HS := hid hs; clear hs) | (at_builtin; go_must (refine t_app (ts := []) (us := []) rfl (.tmp 71) (.tmp 74) rfl HS.out HQq.out rfl rfl ?_); intro A1 c1 wn hs; have HS := hid hs; clear hs) | (go_at_call 21; go_must (refine (t_put (ts := []) (us := [a]) 14 noB noB 0 (by unfold okI; omega) (by decide) (by decide) (okI0) HS.out).mono ?_); rintro e wn ⟨q9, rfl, hqq9, hs, hk⟩; have HQq9 := hid hqq9; clear hqq9; have HS := hid hs; clear hs hk)
   go_ret
   exact ⟨q9, rfl, HQq9.out, StT.weak HS.out (by omega)⟩
 have g7 := eq_false_of_ne_true c7
 clear c7
 by_cases c8 : isSign kDefer l = true
 ·cases hu : exprF f 1 l.tail with
  | out => exact absurd (by rw [stmF]; simp [g1, g2, g3, g4, g5, g6, g7, c8, hu, nmM, nd, Pr.bind]) hne
  | bad =>
   have hnu : exprF f 1 l.tail ≠ .out := by rw [hu]; intro e; cases e
   have hr : stmF (f + 1) l = .bad := by rw [stmF]; simp [g1, g2, g3, g4, g5, g6, g7, c8, hu, nmM, nd, Pr.bind]
   rw [hr]
   clear hr hne
   go_enter Try.func50, Try.ntmps50
   go_upto_region 3 with (go_at_call 49; go_must (refine (t_looks ⟨#[123]⟩ [123] rfl HS.out).mono ?_); rintro e wn ⟨rfl, hs, hk⟩; rw [g1]; have HS := hid hs; clear hs hk)
   go_upto_region 6 with (go_at_call 35; go_must (refine (t_signN ⟨#[118, 97, 114]⟩ [118, 97, 114] rfl HS.out g2).mono ?_); rintro e wn ⟨rfl, hs, hk⟩; have HS := hid hs; clear hs hk)
   go_upto_region 8 with (go_at_call 35; go_must (refine (t_signN ⟨#[105, 102]⟩ [105, 102] rfl HS.out g3).mono ?_); rintro e wn ⟨rfl, hs, hk⟩; have HS := hid hs; clear hs hk)
   go_upto_region 14 with (go_at_call 35; go_must (refine (t_signN ⟨#[102, 111, 114]⟩ [102, 111, 114] rfl HS.out g4).mono ?_); rintro e wn ⟨rfl, hs, hk⟩; have HS := hid hs; clear hs hk)
   go_upto_region 16 with (go_at_call 35; go_must (refine (t_signN ⟨#[98, 114, 101, 97, 107]⟩ [98, 114, 101, 97, 107] rfl HS.out g5).mono ?_); rintro e wn ⟨rfl, hs, hk⟩; have HS := hid hs; clear hs hk)
   go_upto_region 18 with (go_at_call 35; go_must (refine (t_signN ⟨#[99, 111, 110, 116, 105, 110, 117, 101]⟩ [99, 111, 110, 116, 105, 110, 117, 101] rfl HS.out g6).mono ?_); rintro e wn ⟨rfl, hs, hk⟩; have HS := hid hs; clear hs hk)
   go_upto_region 23 with (go_at_call 35; go_must (refine (t_signN ⟨#[114, 101, 116, 117, 114, 110]⟩ [114, 101, 116, 117, 114, 110] rfl HS.out g7).mono ?_); rintro e wn ⟨rfl, hs, hk⟩; have HS := hid hs; clear hs hk)
   go_upto_region 24 with (go_at_call 35; go_must (refine (t_sign ⟨#[100, 101, 102, 101, 114]⟩ [100, 101, 102, 101, 114] rfl HS.out c8).mono ?_); rintro e wn ⟨rfl, hs, hk⟩; have HS := hid hs; clear hs hk)
   go_wp2_with (go_at_call 61; go_must (refine ((H.expr (ts := []) 1 (by omega) HS.out hnu).mono fun _ _ x => Res.bad x hu).mono ?_); rintro e wn ⟨rfl, hb⟩; unfold stopP; have HB := hid hb; clear hb)
   exact ⟨rfl, rfl, HB.out⟩
  | ok a r =>
   have hnu : exprF f 1 l.tail ≠ .out := by rw [hu]; intro e; cases e
   by_cases d : kindT a = 28
   ·have hr : stmF (f + 1) l = .ok (nd 15 [a]) r := by rw [stmF]; simp [g1, g2, g3, g4, g5, g6, g7, c8, hu, d, nmM, nd, Pr.bind]
    rw [hr]
    clear hr hne
    go_enter Try.func50, Try.ntmps50
    go_upto_region 3 with (go_at_call 49; go_must (refine (t_looks ⟨#[123]⟩ [123] rfl HS.out).mono ?_); rintro e wn ⟨rfl, hs, hk⟩; rw [g1]; have HS := hid hs; clear hs hk)
    go_upto_region 6 with (go_at_call 35; go_must (refine (t_signN ⟨#[118, 97, 114]⟩ [118, 97, 114] rfl HS.out g2).mono ?_); rintro e wn ⟨rfl, hs, hk⟩; have HS := hid hs; clear hs hk)
    go_upto_region 8 with (go_at_call 35; go_must (refine (t_signN ⟨#[105, 102]⟩ [105, 102] rfl HS.out g3).mono ?_); rintro e wn ⟨rfl, hs, hk⟩; have HS := hid hs; clear hs hk)
    go_upto_region 14 with (go_at_call 35; go_must (refine (t_signN ⟨#[102, 111, 114]⟩ [102, 111, 114] rfl HS.out g4).mono ?_); rintro e wn ⟨rfl, hs, hk⟩; have HS := hid hs; clear hs hk)
    go_upto_region 16 with (go_at_call 35; go_must (refine (t_signN ⟨#[98, 114, 101, 97, 107]⟩ [98, 114, 101, 97, 107] rfl HS.out g5).mono ?_); rintro e wn ⟨rfl, hs, hk⟩; have HS := hid hs; clear hs hk)
    go_upto_region 18 with (go_at_call 35; go_must (refine (t_signN ⟨#[99, 111, 110, 116, 105, 110, 117, 101]⟩ [99, 111, 110, 116, 105, 110, 117, 101] rfl HS.out g6).mono ?_); rintro e wn ⟨rfl, hs, hk⟩; have HS := hid hs; clear hs hk)
    go_upto_region 23 with (go_at_call 35; go_must (refine (t_signN ⟨#[114, 101, 116, 117, 114, 110]⟩ [114, 101, 116, 117, 114, 110] rfl HS.out g7).mono ?_); rintro e wn ⟨rfl, hs, hk⟩; have HS := hid hs; clear hs hk)
    go_upto_region 24 with (go_at_call 35; go_must (refine (t_sign ⟨#[100, 101, 102, 101, 114]⟩ [100, 101, 102, 101, 114] rfl HS.out c8).mono ?_); rintro e wn ⟨rfl, hs, hk⟩; have HS := hid hs; clear hs hk)
    go_upto_region 25 with (go_at_call 61; go_must (refine ((H.expr (ts := []) 1 (by omega) HS.out hnu).mono fun _ _ x => Res.ok x hu).mono ?_); rintro e wn ⟨q, rfl, hqq, hs⟩; have HQq := hid hqq; clear hqq; have HS := hid hs; clear hs)
    obtain ⟨gn, cn, NN, ty, nm, kd, n1, n2, n3, n4, n5, n6, n7, n8, n9, n10⟩ := StT.node (ts := []) HS.out HQq.out
    have n3 : (q : Int) < (NN : Int) := by omega
    rw [d] at n5
    go_upto_region 27 with fail
    clear n1 n2 n3 n4 n5 n6 n7 n8 n9 n10
    go_wp2_with (go_at_call 21; go_must (refine (t_put (ts := []) (us := [a]) 15 noB noB 0 (by unfold okI; omega) (by decide) (by decide) (okI0) (lit1 (ts := []) HS.out HQq.out)).mono ?_); rintro e wn ⟨q9, rfl, hqq9, hs, hk⟩; have HQq9 := hid hqq9; clear hqq9; have HS := hid hs; clear hs hk)
    go_ret
    exact ⟨q9, rfl, HQq9.out, StT.weak HS.out (by omega)⟩
   obtain ⟨mm, cmm⟩ : ∃ mm, kindT a = mm := ⟨_, rfl⟩
   have m2 : (mm != 28) = true := by rw [bne_iff_ne]; rw [← cmm]; exact d
   have m1 : (mm == 28) = false := by rw [beq_eq_false_iff_ne]; rw [← cmm]; exact d
   have hr : stmF (f + 1) l = .bad := by rw [stmF]; simp [g1, g2, g3, g4, g5, g6, g7, c8, hu, d, nmM, nd, Pr.bind]
   rw [hr]
   clear hr hne
   go_enter Try.func50, Try.ntmps50
   go_upto_region 3 with (go_at_call 49; go_must (refine (t_looks ⟨#[123]⟩ [123] rfl HS.out).mono ?_); rintro e wn ⟨rfl, hs, hk⟩; rw [g1]; have HS := hid hs; clear hs hk)
   go_upto_region 6 with (go_at_call 35; go_must (refine (t_signN ⟨#[118, 97, 114]⟩ [118, 97, 114] rfl HS.out g2).mono ?_); rintro e wn ⟨rfl, hs, hk⟩; have HS := hid hs; clear hs hk)
   go_upto_region 8 with (go_at_call 35; go_must (refine (t_signN ⟨#[105, 102]⟩ [105, 102] rfl HS.out g3).mono ?_); rintro e wn ⟨rfl, hs, hk⟩; have HS := hid hs; clear hs hk)
   go_upto_region 14 with (go_at_call 35; go_must (refine (t_signN ⟨#[102, 111, 114]⟩ [102, 111, 114] rfl HS.out g4).mono ?_); rintro e wn ⟨rfl, hs, hk⟩; have HS := hid hs; clear hs hk)
   go_upto_region 16 with (go_at_call 35; go_must (refine (t_signN ⟨#[98, 114, 101, 97, 107]⟩ [98, 114, 101, 97, 107] rfl HS.out g5).mono ?_); rintro e wn ⟨rfl, hs, hk⟩; have HS := hid hs; clear hs hk)
   go_upto_region 18 with (go_at_call 35; go_must (refine (t_signN ⟨#[99, 111, 110, 116, 105, 110, 117, 101]⟩ [99, 111, 110, 116, 105, 110, 117, 101] rfl HS.out g6).mono ?_); rintro e wn ⟨rfl, hs, hk⟩; have HS := hid hs; clear hs hk)
   go_upto_region 23 with (go_at_call 35; go_must (refine (t_signN ⟨#[114, 101, 116, 117, 114, 110]⟩ [114, 101, 116, 117, 114, 110] rfl HS.out g7).mono ?_); rintro e wn ⟨rfl, hs, hk⟩; have HS := hid hs; clear hs hk)
   go_upto_region 24 with (go_at_call 35; go_must (refine (t_sign ⟨#[100, 101, 102, 101, 114]⟩ [100, 101, 102, 101, 114] rfl HS.out c8).mono ?_); rintro e wn ⟨rfl, hs, hk⟩; have HS := hid hs; clear hs hk)
   go_upto_region 25 with (go_at_call 61; go_must (refine ((H.expr (ts := []) 1 (by omega) HS.out hnu).mono fun _ _ x => Res.ok x hu).mono ?_); rintro e wn ⟨q, rfl, hqq, hs⟩; have HQq := hid hqq; clear hqq; have HS := hid hs; clear hs)
   obtain ⟨gn, cn, NN, ty, nm, kd, n1, n2, n3, n4, n5, n6, n7, n8, n9, n10⟩ := StT.node (ts := []) HS.out HQq.out
   have n3 : (q : Int) < (NN : Int) := by omega
   rw [cmm] at n5
   go_wp2_with (go_at_call 20; go_must (refine (fail_any _ _).mono ?_); rintro e wn ⟨rfl, hk⟩; unfold stopP; have HB := hid (HS.out.belowK hk); clear hk)
   exact ⟨rfl, rfl, HB.out⟩
 have g8 := eq_false_of_ne_true c8
 clear c8
 cases hu : simF f l with
 | out => exact absurd (by rw [stmF]; simp [g1, g2, g3, g4, g5, g6, g7, g8, hu, nmM, nd, Pr.bind]) hne
 | bad =>
  have hnu : simF f l ≠ .out := by rw [hu]; intro e; cases e
  have hr : stmF (f + 1) l = .bad := by rw [stmF]; simp [g1, g2, g3, g4, g5, g6, g7, g8, hu, nmM, nd, Pr.bind]
  rw [hr]
  clear hr hne
  go_enter Try.func50, Try.ntmps50
  go_upto_region 3 with (go_at_call 49; go_must (refine (t_looks ⟨#[123]⟩ [123] rfl HS.out).mono ?_); rintro e wn ⟨rfl, hs, hk⟩; rw [g1]; have HS := hid hs; clear hs hk)
  go_upto_region 6 with (go_at_call 35; go_must (refine (t_signN ⟨#[118, 97, 114]⟩ [118, 97, 114] rfl HS.out g2).mono ?_); rintro e wn ⟨rfl, hs, hk⟩; have HS := hid hs; clear hs hk)
  go_upto_region 8 with (go_at_call 35; go_must (refine (t_signN ⟨#[105, 102]⟩ [105, 102] rfl HS.out g3).mono ?_); rintro e wn ⟨rfl, hs, hk⟩; have HS := hid hs; clear hs hk)
  go_upto_region 14 with (go_at_call 35; go_must (refine (t_signN ⟨#[102, 111, 114]⟩ [102, 111, 114] rfl HS.out g4).mono ?_); rintro e wn ⟨rfl, hs, hk⟩; have HS := hid hs; clear hs hk)
  go_upto_region 16 with (go_at_call 35; go_must (refine (t_signN ⟨#[98, 114, 101, 97, 107]⟩ [98, 114, 101, 97, 107] rfl HS.out g5).mono ?_); rintro e wn ⟨rfl, hs, hk⟩; have HS := hid hs; clear hs hk)
  go_upto_region 18 with (go_at_call 35; go_must (refine (t_signN ⟨#[99, 111, 110, 116, 105, 110, 117, 101]⟩ [99, 111, 110, 116, 105, 110, 117, 101] rfl HS.out g6).mono ?_); rintro e wn ⟨rfl, hs, hk⟩; have HS := hid hs; clear hs hk)
  go_upto_region 23 with (go_at_call 35; go_must (refine (t_signN ⟨#[114, 101, 116, 117, 114, 110]⟩ [114, 101, 116, 117, 114, 110] rfl HS.out g7).mono ?_); rintro e wn ⟨rfl, hs, hk⟩; have HS := hid hs; clear hs hk)
  go_upto_region 28 with (go_at_call 35; go_must (refine (t_signN ⟨#[100, 101, 102, 101, 114]⟩ [100, 101, 102, 101, 114] rfl HS.out g8).mono ?_); rintro e wn ⟨rfl, hs, hk⟩; have HS := hid hs; clear hs hk)
  go_wp2_with (go_at_call 62; go_must (refine ((H.sim HS.out hnu).mono fun _ _ x => Res.bad x hu).mono ?_); rintro e wn ⟨rfl, hb⟩; unfold stopP; have HB := hid hb; clear hb)
  exact ⟨rfl, rfl, HB.out⟩
 | ok a r =>
  have hnu : simF f l ≠ .out := by rw [hu]; intro e; cases e
  have hr : stmF (f + 1) l = .ok a r := by rw [stmF]; simp [g1, g2, g3, g4, g5, g6, g7, g8, hu, nmM, nd, Pr.bind]
  rw [hr]
  clear hr hne
  go_enter Try.func50, Try.ntmps50
  go_upto_region 3 with (go_at_call 49; go_must (refine (t_looks ⟨#[123]⟩ [123] rfl HS.out).mono ?_); rintro e wn ⟨rfl, hs, hk⟩; rw [g1]; have HS := hid hs; clear hs hk)
  go_upto_region 6 with (go_at_call 35; go_must (refine (t_signN ⟨#[118, 97, 114]⟩ [118, 97, 114] rfl HS.out g2).mono ?_); rintro e wn ⟨rfl, hs, hk⟩; have HS := hid hs; clear hs hk)
  go_upto_region 8 with (go_at_call 35; go_must (refine (t_signN ⟨#[105, 102]⟩ [105, 102] rfl HS.out g3).mono ?_); rintro e wn ⟨rfl, hs, hk⟩; have HS := hid hs; clear hs hk)
  go_upto_region 14 with (go_at_call 35; go_must (refine (t_signN ⟨#[102, 111, 114]⟩ [102, 111, 114] rfl HS.out g4).mono ?_); rintro e wn ⟨rfl, hs, hk⟩; have HS := hid hs; clear hs hk)
  go_upto_region 16 with (go_at_call 35; go_must (refine (t_signN ⟨#[98, 114, 101, 97, 107]⟩ [98, 114, 101, 97, 107] rfl HS.out g5).mono ?_); rintro e wn ⟨rfl, hs, hk⟩; have HS := hid hs; clear hs hk)
  go_upto_region 18 with (go_at_call 35; go_must (refine (t_signN ⟨#[99, 111, 110, 116, 105, 110, 117, 101]⟩ [99, 111, 110, 116, 105, 110, 117, 101] rfl HS.out g6).mono ?_); rintro e wn ⟨rfl, hs, hk⟩; have HS := hid hs; clear hs hk)
  go_upto_region 23 with (go_at_call 35; go_must (refine (t_signN ⟨#[114, 101, 116, 117, 114, 110]⟩ [114, 101, 116, 117, 114, 110] rfl HS.out g7).mono ?_); rintro e wn ⟨rfl, hs, hk⟩; have HS := hid hs; clear hs hk)
  go_upto_region 28 with (go_at_call 35; go_must (refine (t_signN ⟨#[100, 101, 102, 101, 114]⟩ [100, 101, 102, 101, 114] rfl HS.out g8).mono ?_); rintro e wn ⟨rfl, hs, hk⟩; have HS := hid hs; clear hs hk)
  go_wp2_with (go_at_call 62; go_must (refine ((H.sim HS.out hnu).mono fun _ _ x => Res.ok x hu).mono ?_); rintro e wn ⟨q9, rfl, hqq9, hs⟩; have HQq9 := hid hqq9; clear hqq9; have HS := hid hs; clear hs)
  go_ret
  exact ⟨q9, rfl, HQq9.out, StT.weak HS.out (by omega)⟩

theorem fun_ok (f : Nat) (H : Ctr f) : CF 19 (funF (f + 1)) := by
 refine baseF fun {w rp L l P Na s} kk S hkk hS h hne => ?_
 have HS := hid h
 clear h
 by_cases c : isSign [40] l = true
 rotate_left
 ·have g := eq_false_of_ne_true c
  have hr : funF (f + 1) kk S l = .bad := by rw [funF]; simp [want, g, Pr.bind]
  rw [hr]
  clear hr hne c
  go_enter Try.func19, Try.ntmps19
  go_wp2_with (go_at_call 17; go_must (refine (t_wantN ⟨#[40]⟩ [40] rfl HS.out g).mono ?_); rintro e wn ⟨rfl, hb, hk⟩; unfold stopP; have HB := hid hb; clear hb hk)
  exact ⟨rfl, rfl, HB.out⟩
 have e1 : funF (f + 1) kk S l = (parsF f [] l.tail).bind fun ps r => (resF f r).bind fun q r => (blockF f r).bind fun b r => .ok (.node kk S noB ps.length (ps ++ [q, b])) r := by rw [funF]; simp [want, c, Pr.bind]
 generalize hW : funF (f + 1) kk S l = WW at e1 hne ⊢
 generalize hR : parsF f [] l.tail = R at e1
 have HE := hid e1
 have HNE := hid hne
 have HR := hid hR
 have HNR := hid (show R ≠ .out by intro e; rw [e] at e1; exact hne e1)
 clear hne hR hW e1
 go_enter Try.func19, Try.ntmps19
 go_upto_region 3 with (go_at_call 17; go_must (refine (t_want ⟨#[40]⟩ [40] rfl HS.out c).mono ?_); rintro e wn ⟨rfl, hs, hk⟩; have HS := hid hs; clear hs hk)
 go_loopw [7, 8] (fun kv _ wr => ∃ (g : Nat) (us : List T) (l' : List Tk) (A : Option Addr) (c : Nat), g ≤ f ∧ parsF g us l' = R ∧ kv = .slice A us.length c ∧ StT w rp L l' P Na us s (.slice A us.length c) (rootsL (P.length + sizeL []) us) wr) (fun _ _ wr => L.length - atOf wr rp)
 case atStart => exact ⟨f, [], l.tail, none, 0, Nat.le_refl _, HR.out, rfl, StT.weak HS.out (by omega)⟩
 case round =>
  clear HS c
  obtain ⟨g, us, l', A, c, hg, hr, rfl, hs⟩ := hrel
  have HS := hid hs
  have HAT := hid hs.at_
  have HUL := hid (StT.kids_len (ts := []) hs)
  clear hs
  cases g with
  | zero => exact absurd (by rw [← hr, parsF]) HNR.out
  | succ g =>
   rw [parsF] at hr
   by_cases d : isSign [41] l' = true
   rotate_left
   have e := eq_false_of_ne_true d
   rw [if_neg d] at hr
   clear d
   ·by_cases un : us = []
    ·rw [if_pos un] at hr
     simp only [Pr.bind] at hr
     have u1 : ¬ (0 : Int) < (us.length : Int) := by rw [un]; simp
     clear un
     by_cases u4 : us.length = 4
     ·rw [if_pos u4] at hr
      have HT := hid (show WW = .bad by rw [HE.out, ← hr]; rfl)
      have v4 : ((us.length : Int) == 4) = true := by rw [beq_iff_eq]; omega
      clear hr u4
      go_upto_region 6 with (go_at_call 35; go_must (refine (t_signN ⟨#[41]⟩ [41] rfl HS.out e).mono ?_); rintro e wn ⟨rfl, hs, hk⟩; have HS := hid hs; clear hs hk)
      go_wp2_with (go_at_call 20; go_must (refine (fail_any _ _).mono ?_); rintro e wn ⟨rfl, hk⟩; unfold stopP; have HB := hid (HS.out.belowK hk); clear hk)
      rw [HT.out]
      exact ⟨rfl, rfl, HB.out⟩
     rw [if_neg u4] at hr
     have v4 : ((us.length : Int) == 4) = false := by rw [beq_eq_false_iff_ne]; omega
     clear u4
     by_cases k1 : kindOf l' = 1
     rotate_left
     ·rw [nmM, if_neg k1] at hr
      have HT := hid (show WW = .bad by rw [HE.out, ← hr]; rfl)
      clear hr
      go_upto_region 6 with (go_at_call 35; go_must (refine (t_signN ⟨#[41]⟩ [41] rfl HS.out e).mono ?_); rintro e wn ⟨rfl, hs, hk⟩; have HS := hid hs; clear hs hk)
      go_wp2_with (go_at_call 18; go_must (refine (t_nameN HS.out k1).mono ?_); rintro e wn ⟨rfl, hb, hk⟩; unfold stopP; have HB := hid hb; clear hb hk)
      rw [HT.out]
      exact ⟨rfl, rfl, HB.out⟩
     rw [nmM, if_pos k1] at hr
     simp only [Pr.bind] at hr
     have hlt1 := kind_pos k1 (by decide)
     cases hu : typF g l'.tail with
     | out => exact absurd (by rw [← hr, hu]) HNR.out
     | bad =>
      have hnu : typF g l'.tail ≠ .out := by rw [hu]; intro e; cases e
      rw [hu] at hr
      have HT := hid (show WW = .bad by rw [HE.out, ← hr]; rfl)
      clear hr
      go_upto_region 6 with (go_at_call 35; go_must (refine (t_signN ⟨#[41]⟩ [41] rfl HS.out e).mono ?_); rintro e wn ⟨rfl, hs, hk⟩; have HS := hid hs; clear hs hk)
      have htx := HS.out.text_ok
      go_upto_region 9 with (go_at_call 18; go_must (refine (t_name HS.out k1).mono ?_); rintro e wn ⟨rfl, hs, hk⟩; have HS := hid hs; clear hs hk)
      go_wp2_with (go_at_call 36; go_must (refine (((typ_ok g) HS.out hnu).mono fun _ _ x => ResY.bad x hu).mono ?_); rintro e wn ⟨rfl, hb⟩; unfold stopP; have HB := hid hb; clear hb)
      rw [HT.out]
      exact ⟨rfl, rfl, HB.out⟩
     | ok t r2 =>
      have hnu : typF g l'.tail ≠ .out := by rw [hu]; intro e; cases e
      rw [hu] at hr
      simp only at hr
      have HR2 := hid hr
      have hlt2 := typ_lt hu
      clear hr
      go_upto_region 6 with (go_at_call 35; go_must (refine (t_signN ⟨#[41]⟩ [41] rfl HS.out e).mono ?_); rintro e wn ⟨rfl, hs, hk⟩; have HS := hid hs; clear hs hk)
      have htx := HS.out.text_ok
      go_upto_region 9 with (go_at_call 18; go_must (refine (t_name HS.out k1).mono ?_); rintro e wn ⟨rfl, hs, hk⟩; have HS := hid hs; clear hs hk)
      go_wp2_with first | (go_at_call 36; go_must (refine (((typ_ok g) HS.out hnu).mono fun _ _ x => ResY.ok x hu).mono ?_); rintro e wn ⟨rfl, hz, hs, hk⟩; have HZ := hid hz; clear hz; have HS := hid hs; clear hs hk) | (go_at_call 21; go_must (refine (t_put0 (ts := us) 3 (textOf l') (sB t) 0 (by unfold okI; omega) (htx) (Nat.le_trans HZ.out (by decide)) (okI0) HS.out).mono ?_); rintro e wn ⟨q2, rfl, hqq2, hs, hk⟩; have HQq2 := hid hqq2; clear hqq2; have HS := hid hs; clear hs hk) | (at_builtin; go_must (refine t_app rfl (.tmp 28) (.tmp 35) rfl (ts := []) (us := us) HS.out HQq2.out rfl rfl ?_); intro A1 c1 wn hs; have HS := hid hs; clear hs)
      exact ⟨⟨g, us ++ [.node 3 (textOf l') (sB t) 0 []], r2, A1, c1, by omega, HR2.out, by simp, by rw [List.length_append]; exact StT.weak HS.out (by omega)⟩, by rw [HAT.out, HS.out.at_]; omega⟩
    rw [if_neg un] at hr
    have u1 : (0 : Int) < (us.length : Int) := by have := List.length_pos_iff.2 un; omega
    clear un
    by_cases d : isSign [44] l' = true
    rotate_left
    ·have d2 := eq_false_of_ne_true d
     have HT := hid (show WW = .bad by rw [HE.out, ← hr]; simp [want, d2, Pr.bind])
     clear hr d
     go_upto_region 5 with (go_at_call 35; go_must (refine (t_signN ⟨#[41]⟩ [41] rfl HS.out e).mono ?_); rintro e wn ⟨rfl, hs, hk⟩; have HS := hid hs; clear hs hk)
     go_wp2_with (go_at_call 17; go_must (refine (t_wantN ⟨#[44]⟩ [44] rfl HS.out d2).mono ?_); rintro e wn ⟨rfl, hb, hk⟩; unfold stopP; have HB := hid hb; clear hb hk)
     rw [HT.out]
     exact ⟨rfl, rfl, HB.out⟩
    have hlt0 := sign_pos d
    rw [want, if_pos d] at hr
    simp only [Pr.bind] at hr
    by_cases u4 : us.length = 4
    ·rw [if_pos u4] at hr
     have HT := hid (show WW = .bad by rw [HE.out, ← hr]; rfl)
     have v4 : ((us.length : Int) == 4) = true := by rw [beq_iff_eq]; omega
     clear hr u4
     go_upto_region 5 with (go_at_call 35; go_must (refine (t_signN ⟨#[41]⟩ [41] rfl HS.out e).mono ?_); rintro e wn ⟨rfl, hs, hk⟩; have HS := hid hs; clear hs hk)
     go_upto_region 6 with (go_at_call 17; go_must (refine (t_want ⟨#[44]⟩ [44] rfl HS.out d).mono ?_); rintro e wn ⟨rfl, hs, hk⟩; have HS := hid hs; clear hs hk)
     go_wp2_with (go_at_call 20; go_must (refine (fail_any _ _).mono ?_); rintro e wn ⟨rfl, hk⟩; unfold stopP; have HB := hid (HS.out.belowK hk); clear hk)
     rw [HT.out]
     exact ⟨rfl, rfl, HB.out⟩
    rw [if_neg u4] at hr
    have v4 : ((us.length : Int) == 4) = false := by rw [beq_eq_false_iff_ne]; omega
    clear u4
    by_cases k1 : kindOf l'.tail = 1
    rotate_left
    ·rw [nmM, if_neg k1] at hr
     have HT := hid (show WW = .bad by rw [HE.out, ← hr]; rfl)
     clear hr
     go_upto_region 5 with (go_at_call 35; go_must (refine (t_signN ⟨#[41]⟩ [41] rfl HS.out e).mono ?_); rintro e wn ⟨rfl, hs, hk⟩; have HS := hid hs; clear hs hk)
     go_upto_region 6 with (go_at_call 17; go_must (refine (t_want ⟨#[44]⟩ [44] rfl HS.out d).mono ?_); rintro e wn ⟨rfl, hs, hk⟩; have HS := hid hs; clear hs hk)
     go_wp2_with (go_at_call 18; go_must (refine (t_nameN HS.out k1).mono ?_); rintro e wn ⟨rfl, hb, hk⟩; unfold stopP; have HB := hid hb; clear hb hk)
     rw [HT.out]
     exact ⟨rfl, rfl, HB.out⟩
    rw [nmM, if_pos k1] at hr
    simp only [Pr.bind] at hr
    have hlt1 := kind_pos k1 (by decide)
    cases hu : typF g l'.tail.tail with
    | out => exact absurd (by rw [← hr, hu]) HNR.out
    | bad =>
     have hnu : typF g l'.tail.tail ≠ .out := by rw [hu]; intro e; cases e
     rw [hu] at hr
     have HT := hid (show WW = .bad by rw [HE.out, ← hr]; rfl)
     clear hr
     go_upto_region 5 with (go_at_call 35; go_must (refine (t_signN ⟨#[41]⟩ [41] rfl HS.out e).mono ?_); rintro e wn ⟨rfl, hs, hk⟩; have HS := hid hs; clear hs hk)
     go_upto_region 6 with (go_at_call 17; go_must (refine (t_want ⟨#[44]⟩ [44] rfl HS.out d).mono ?_); rintro e wn ⟨rfl, hs, hk⟩; have HS := hid hs; clear hs hk)
     have htx := HS.out.text_ok
     go_upto_region 9 with (go_at_call 18; go_must (refine (t_name HS.out k1).mono ?_); rintro e wn ⟨rfl, hs, hk⟩; have HS := hid hs; clear hs hk)
     go_wp2_with (go_at_call 36; go_must (refine (((typ_ok g) HS.out hnu).mono fun _ _ x => ResY.bad x hu).mono ?_); rintro e wn ⟨rfl, hb⟩; unfold stopP; have HB := hid hb; clear hb)
     rw [HT.out]
     exact ⟨rfl, rfl, HB.out⟩
    | ok t r2 =>
     have hnu : typF g l'.tail.tail ≠ .out := by rw [hu]; intro e; cases e
     rw [hu] at hr
     simp only at hr
     have HR2 := hid hr
     have hlt2 := typ_lt hu
     clear hr
     go_upto_region 5 with (go_at_call 35; go_must (refine (t_signN ⟨#[41]⟩ [41] rfl HS.out e).mono ?_); rintro e wn ⟨rfl, hs, hk⟩; have HS := hid hs; clear hs hk)
     go_upto_region 6 with (go_at_call 17; go_must (refine (t_want ⟨#[44]⟩ [44] rfl HS.out d).mono ?_); rintro e wn ⟨rfl, hs, hk⟩; have HS := hid hs; clear hs hk)
     have htx := HS.out.text_ok
     go_upto_region 9 with (go_at_call 18; go_must (refine (t_name HS.out k1).mono ?_); rintro e wn ⟨rfl, hs, hk⟩; have HS := hid hs; clear hs hk)
     go_wp2_with first | (go_at_call 36; go_must (refine (((typ_ok g) HS.out hnu).mono fun _ _ x => ResY.ok x hu).mono ?_); rintro e wn ⟨rfl, hz, hs, hk⟩; have HZ := hid hz; clear hz; have HS := hid hs; clear hs hk) | (go_at_call 21; go_must (refine (t_put0 (ts := us) 3 (textOf l'.tail) (sB t) 0 (by unfold okI; omega) (htx) (Nat.le_trans HZ.out (by decide)) (okI0) HS.out).mono ?_); rintro e wn ⟨q2, rfl, hqq2, hs, hk⟩; have HQq2 := hid hqq2; clear hqq2; have HS := hid hs; clear hs hk) | (at_builtin; go_must (refine t_app rfl (.tmp 28) (.tmp 35) rfl (ts := []) (us := us) HS.out HQq2.out rfl rfl ?_); intro A1 c1 wn hs; have HS := hid hs; clear hs)
     exact ⟨⟨g, us ++ [.node 3 (textOf l'.tail) (sB t) 0 []], r2, A1, c1, by omega, HR2.out, by simp, by rw [List.length_append]; exact StT.weak HS.out (by omega)⟩, by rw [HAT.out, HS.out.at_]; omega⟩
   rw [if_pos d] at hr
   have HT0 := hid (show WW = (resF f l'.tail).bind fun q r => (blockF f r).bind fun b r => .ok (.node kk S noB us.length (us ++ [q, b])) r by rw [HE.out, ← hr]; rfl)
   clear hr
   go_upto_region 11 with (go_at_call 35; go_must (refine (t_sign ⟨#[41]⟩ [41] rfl HS.out d).mono ?_); rintro e wn ⟨rfl, hs, hk⟩; have HS := hid hs; clear hs hk)
   clear d
   obtain ⟨r1, hr1⟩ : ∃ r1, l'.tail = r1 := ⟨_, rfl⟩
   rw [hr1] at HS HT0
   clear hr1
   obtain ⟨WA, hWA⟩ : ∃ x, x = wn := ⟨_, rfl⟩
   subst hWA
   obtain ⟨new, hn⟩ := HS.out
   obtain ⟨lv, tv, hv⟩ := hn.prs
   have HN := hid hn
   have HSL := hid HS.out.low
   have hbl := hv.choose_spec.blks_lt
   have HRB := hid (show rp < WA.heap.size ∧ tv.ownBlock ≠ some WA.heap.size ∧ WA.heap.size ∉ gBlks (P ++ Na ++ new) from ⟨hv.choose_spec.rp_lt, fun e => Nat.lt_irrefl _ (hbl.1 _ e), fun e => Nat.lt_irrefl _ (hbl.2 _ e)⟩)
   have hka := (Kp.refl WA).alloc (.cells #[.int .i64 4, .string ⟨#[]⟩, .string ⟨#[]⟩, .int .i64 0, .slice none 0 0] 37)
   have HV := hid (PrsV.kp (show PrsV _ _ _ _ _ _ _ _ from hv) hka)
   have HPK := hid (Pk.of_kp hka hn.prs.le)
   have HBX := hid (blk_new WA (.cells #[.int .i64 4, .string ⟨#[]⟩, .string ⟨#[]⟩, .int .i64 0, .slice none 0 0] 37))
   clear hn hv hbl hka HS
   go_upto_region 12 with fail
   generalize World.alloc _ _ = W3 at HV HPK HBX ⊢
   obtain ⟨rb, hrb⟩ : ∃ rb, WA.heap.size = rb := ⟨_, rfl⟩
   have HSZ := hid (Nat.le_of_eq hrb)
   rw [hrb] at HRB HBX ⊢
   clear hrb
   have HRN := hid (show some rb ≠ some rp by intro e; injection e with e; have := HRB.out.1; omega)
   have HV0 := HV
   have HG := hid (World.grownBy.refl W3 (some rp))
   have hnb := HNE.out
   rw [HT0.out] at hnb
   by_cases p : isSign [40] r1 = true
   rotate_left
   ·have g := eq_false_of_ne_true p
    clear p
    by_cases ty : typed r1 = true
    rotate_left
    ·have tf := eq_false_of_ne_true ty
     clear ty
     go_upto_region 18 with first | (go_at_call 35; go_must (refine (sign_no _ rp ⟨#[40]⟩ [40] rfl HV.out.e g).mono ?_); rintro e wn ⟨rfl, hk⟩; have HV := hid (HV.out.kp hk); have HG := hid (HG.out.trans (grown_kp hk _)); clear hk) | (go_at_call 37; go_must (refine (typed_v HV.out).mono ?_); rintro e wn ⟨rfl, hk⟩; rw [tf]; have HV := hid (HV.out.kp hk); have HG := hid (HG.out.trans (grown_kp hk _)); clear hk)
     have hb := grown_blk HG.out HBX.out HRN.out
     have e0 := blk_cell (o := 0) (v := Value.int .i64 4) hb rfl
     have e1 := blk_cell (o := 1) (v := Value.string noB) hb rfl
     have e2 := blk_cell (o := 2) (v := Value.string noB) hb rfl
     have e3 := blk_cell (o := 3) (v := Value.int .i64 0) hb rfl
     have e4 := blk_cell (o := 4) (v := Value.slice none 0 0) hb rfl
     have HS := hid (StN.step HN.out HV.out.e (HPK.out.trans (Pk.of_grown HG.out (Nat.le_of_lt HV0.out.lt))))
     clear hb
     cases hv : blockF f r1 with
     | out => exact absurd (by simp [resF, g, tf, hv, Pr.bind, nd]) hnb
     | bad =>
      have hnv : blockF f r1 ≠ .out := by rw [hv]; intro e; cases e
      have HT := hid (show WW = .bad by rw [HT0.out]; simp [resF, g, tf, hv, Pr.bind, nd])
      go_upto_region 19 with first | (go_at_call 21; go_must (refine (t_put0 (ts := us) 4 noB noB 0 (by unfold okI; omega) (by decide) (by decide) (okI0) HS.out).mono ?_); rintro e wn ⟨q2, rfl, hqq2, hs, hk⟩; have HQq2 := hid hqq2; clear hqq2; have HS := hid hs; clear hs hk) | (at_builtin; go_must (refine t_app rfl (.tmp 55) (.tmp 59) rfl (ts := []) (us := us) HS.out HQq2.out rfl rfl ?_); intro A1 c1 wn hs; have HS := hid hs; clear hs e0 e1 e2 e3 e4)
      go_wp2_with (go_at_call 38; go_must (refine ((H.block (ts := us ++ [.node 4 noB noB 0 []]) HS.out hnv).mono fun _ _ x => Res.bad x hv).mono ?_); rintro e wn ⟨rfl, hb⟩; unfold stopP; have HB := hid hb; clear hb)
      rw [HT.out]
      exact ⟨rfl, rfl, HB.out⟩
     | ok b r9 =>
      have hnv : blockF f r1 ≠ .out := by rw [hv]; intro e; cases e
      have HT := hid (show WW = .ok (.node kk S noB us.length ((us ++ [.node 4 noB noB 0 []]) ++ [b])) r9 by rw [HT0.out]; simp [resF, g, tf, hv, Pr.bind, nd])
      go_upto_region 19 with first | (go_at_call 21; go_must (refine (t_put0 (ts := us) 4 noB noB 0 (by unfold okI; omega) (by decide) (by decide) (okI0) HS.out).mono ?_); rintro e wn ⟨q2, rfl, hqq2, hs, hk⟩; have HQq2 := hid hqq2; clear hqq2; have HS := hid hs; clear hs hk) | (at_builtin; go_must (refine t_app rfl (.tmp 55) (.tmp 59) rfl (ts := []) (us := us) HS.out HQq2.out rfl rfl ?_); intro A1 c1 wn hs; have HS := hid hs; clear hs e0 e1 e2 e3 e4)
      have HKL := hid (show okI (us.length : Int) by have := HUL.out; unfold okI; omega)
      have ell : (us ++ [(.node 4 noB noB 0 [] : T)]).length = us.length + 1 := by simp
      go_upto_region 20 with first | (go_at_call 38; go_must (refine ((H.block (ts := us ++ [.node 4 noB noB 0 []]) HS.out hnv).mono fun _ _ x => Res.ok x hv).mono ?_); rintro e wn ⟨q3, rfl, hqq3, hs⟩; have HQq3 := hid hqq3; clear hqq3; have HS := hid hs; clear hs) | (at_builtin; go_must (refine t_app rfl (.tmp 61) (.tmp 64) rfl (ts := []) (us := us ++ [.node 4 noB noB 0 []]) (kv := .slice A1 (us.length + 1) c1) HS.out HQq3.out rfl rfl ?_); intro A2 c2 wn hs; rw [ell] at hs ⊢; have HS := hid hs; clear hs)
      go_wp2_with (go_at_call 21; go_must (refine (t_put (ts := []) (us := (us ++ [.node 4 noB noB 0 []]) ++ [b]) kk S noB (us.length : Int) hkk hS (by decide) HKL.out HS.out).mono ?_); rintro e wn ⟨q9, rfl, hqq9, hs, hk⟩; have HQq9 := hid hqq9; clear hqq9; have HS := hid hs; clear hs hk)
      go_ret
      rw [HT.out]
      exact ⟨q9, rfl, HQq9.out, StT.weak HS.out (by omega)⟩
    cases hq : typF f r1 with
    | out => exact absurd (by simp [resF, g, ty, hq, Pr.bind]) hnb
    | bad =>
     have hnq : typF f r1 ≠ .out := by rw [hq]; intro e; cases e
     have HT := hid (show WW = .bad by rw [HT0.out]; simp [resF, g, ty, hq, Pr.bind])
     go_upto_region 17 with first | (go_at_call 35; go_must (refine (sign_no _ rp ⟨#[40]⟩ [40] rfl HV.out.e g).mono ?_); rintro e wn ⟨rfl, hk⟩; have HV := hid (HV.out.kp hk); have HG := hid (HG.out.trans (grown_kp hk _)); clear hk) | (go_at_call 37; go_must (refine (typed_v HV.out).mono ?_); rintro e wn ⟨rfl, hk⟩; rw [ty]; have HV := hid (HV.out.kp hk); have HG := hid (HG.out.trans (grown_kp hk _)); clear hk)
     go_wp2_with (go_at_call 36; go_must (refine ((typ_v f HV.out hnq).mono fun _ _ x => ResV.bad x hq).mono ?_); rintro e wn ⟨rfl, hb⟩; unfold stopP; have HB := hid (HV0.out.below2 HG.out hb); clear hb)
     rw [HT.out]
     exact ⟨rfl, rfl, Below.trans HSL.out (Below.trans HPK.out.1 HB.out)⟩
    | ok t r2 =>
     have hnq : typF f r1 ≠ .out := by rw [hq]; intro e; cases e
     go_upto_region 18 with first | (go_at_call 35; go_must (refine (sign_no _ rp ⟨#[40]⟩ [40] rfl HV.out.e g).mono ?_); rintro e wn ⟨rfl, hk⟩; have HV := hid (HV.out.kp hk); have HG := hid (HG.out.trans (grown_kp hk _)); clear hk) | (go_at_call 37; go_must (refine (typed_v HV.out).mono ?_); rintro e wn ⟨rfl, hk⟩; rw [ty]; have HV := hid (HV.out.kp hk); have HG := hid (HG.out.trans (grown_kp hk _)); clear hk) | (go_at_call 36; go_must (refine ((typ_v f HV.out hnq).mono fun _ _ x => ResV.ok x hq).mono ?_); rintro e wn ⟨rfl, hz, hs, hk⟩; have HZ := hid hz; clear hz; have HV := hid hs; have HG := hid (HG.out.trans hk); clear hs hk; have hb := grown_blk HG.out HBX.out HRN.out; have bx := blk_cell (o := 2) (v := Value.string ⟨#[]⟩) hb rfl; have bf := blk_free (o := 2) hb; clear hb)
     have hbx := blk_set (o := 2) (grown_blk HG.out HBX.out HRN.out) (.string (sB t))
     have HBX := hid (hbx.trans (show _ = some (Obj.cells #[.int .i64 4, .string ⟨#[]⟩, .string (sB t), .int .i64 0, .slice none 0 0] 37 (0, 0)) from rfl))
     have HPK := hid (pkBox (j := 2) (HPK.out.trans (Pk.of_grown HG.out (Nat.le_of_lt HV0.out.lt))) HSZ.out HRB.out.1 (.string (sB t)))
     have hvn := HV.out
     obtain ⟨nn, hvn⟩ := hvn
     have HV := hid (show PrsV _ rp L _ _ _ lv tv from ⟨_, hvn.far (j := 2) HRB.out.1 HRB.out.2.1 HRB.out.2.2 (.string (sB t))⟩)
     clear hbx hvn bx bf HV0 HG
     generalize World.setCell _ _ _ = W4 at HBX HPK HV ⊢
     have HV0 := HV
     have HG := hid (World.grownBy.refl W4 (some rp))
     have hb := grown_blk HG.out HBX.out HRN.out
     have e0 := blk_cell (o := 0) (v := Value.int .i64 4) hb rfl
     have e1 := blk_cell (o := 1) (v := Value.string noB) hb rfl
     have e2 := blk_cell (o := 2) (v := Value.string (sB t)) hb rfl
     have e3 := blk_cell (o := 3) (v := Value.int .i64 0) hb rfl
     have e4 := blk_cell (o := 4) (v := Value.slice none 0 0) hb rfl
     have HS := hid (StN.step HN.out HV.out.e (HPK.out.trans (Pk.of_grown HG.out (Nat.le_of_lt HV0.out.lt))))
     clear hb
     cases hv : blockF f r2 with
     | out => exact absurd (by simp [resF, g, ty, hq, hv, Pr.bind, nd]) hnb
     | bad =>
      have hnv : blockF f r2 ≠ .out := by rw [hv]; intro e; cases e
      have HT := hid (show WW = .bad by rw [HT0.out]; simp [resF, g, ty, hq, hv, Pr.bind, nd])
      go_upto_region 19 with first | (go_at_call 21; go_must (refine (t_put0 (ts := us) 4 noB (sB t) 0 (by unfold okI; omega) (by decide) (Nat.le_trans HZ.out (by decide)) (okI0) HS.out).mono ?_); rintro e wn ⟨q2, rfl, hqq2, hs, hk⟩; have HQq2 := hid hqq2; clear hqq2; have HS := hid hs; clear hs hk) | (at_builtin; go_must (refine t_app rfl (.tmp 55) (.tmp 59) rfl (ts := []) (us := us) HS.out HQq2.out rfl rfl ?_); intro A1 c1 wn hs; have HS := hid hs; clear hs e0 e1 e2 e3 e4)
      go_wp2_with (go_at_call 38; go_must (refine ((H.block (ts := us ++ [.node 4 noB (sB t) 0 []]) HS.out hnv).mono fun _ _ x => Res.bad x hv).mono ?_); rintro e wn ⟨rfl, hb⟩; unfold stopP; have HB := hid hb; clear hb)
      rw [HT.out]
      exact ⟨rfl, rfl, HB.out⟩
     | ok b r9 =>
      have hnv : blockF f r2 ≠ .out := by rw [hv]; intro e; cases e
      have HT := hid (show WW = .ok (.node kk S noB us.length ((us ++ [.node 4 noB (sB t) 0 []]) ++ [b])) r9 by rw [HT0.out]; simp [resF, g, ty, hq, hv, Pr.bind, nd])
      go_upto_region 19 with first | (go_at_call 21; go_must (refine (t_put0 (ts := us) 4 noB (sB t) 0 (by unfold okI; omega) (by decide) (Nat.le_trans HZ.out (by decide)) (okI0) HS.out).mono ?_); rintro e wn ⟨q2, rfl, hqq2, hs, hk⟩; have HQq2 := hid hqq2; clear hqq2; have HS := hid hs; clear hs hk) | (at_builtin; go_must (refine t_app rfl (.tmp 55) (.tmp 59) rfl (ts := []) (us := us) HS.out HQq2.out rfl rfl ?_); intro A1 c1 wn hs; have HS := hid hs; clear hs e0 e1 e2 e3 e4)
      have HKL := hid (show okI (us.length : Int) by have := HUL.out; unfold okI; omega)
      have ell : (us ++ [(.node 4 noB (sB t) 0 [] : T)]).length = us.length + 1 := by simp
      go_upto_region 20 with first | (go_at_call 38; go_must (refine ((H.block (ts := us ++ [.node 4 noB (sB t) 0 []]) HS.out hnv).mono fun _ _ x => Res.ok x hv).mono ?_); rintro e wn ⟨q3, rfl, hqq3, hs⟩; have HQq3 := hid hqq3; clear hqq3; have HS := hid hs; clear hs) | (at_builtin; go_must (refine t_app rfl (.tmp 61) (.tmp 64) rfl (ts := []) (us := us ++ [.node 4 noB (sB t) 0 []]) (kv := .slice A1 (us.length + 1) c1) HS.out HQq3.out rfl rfl ?_); intro A2 c2 wn hs; rw [ell] at hs ⊢; have HS := hid hs; clear hs)
      go_wp2_with (go_at_call 21; go_must (refine (t_put (ts := []) (us := (us ++ [.node 4 noB (sB t) 0 []]) ++ [b]) kk S noB (us.length : Int) hkk hS (by decide) HKL.out HS.out).mono ?_); rintro e wn ⟨q9, rfl, hqq9, hs, hk⟩; have HQq9 := hid hqq9; clear hqq9; have HS := hid hs; clear hs hk)
      go_ret
      rw [HT.out]
      exact ⟨q9, rfl, HQq9.out, StT.weak HS.out (by omega)⟩
   by_cases k1 : kindOf r1.tail = 1
   rotate_left
   ·have HT := hid (show WW = .bad by rw [HT0.out]; simp [resF, p, nmM, k1, Pr.bind])
    go_upto_region 13 with (go_at_call 35; go_must (refine (sign_yes _ rp ⟨#[40]⟩ [40] rfl HV.out p).mono ?_); rintro e wn ⟨rfl, hs, hk⟩; have HV := hid hs; have HG := hid (HG.out.trans hk); clear hs hk)
    go_wp2_with (go_at_call 18; go_must (refine (name_no _ rp HV.out.e k1).mono ?_); rintro e wn ⟨rfl, hk⟩; unfold stopP; have HB := hid (HV0.out.below HG.out hk); clear hk)
    rw [HT.out]
    exact ⟨rfl, rfl, Below.trans HSL.out (Below.trans HPK.out.1 HB.out)⟩
   have htx := (PrsV.text_ok HV.out p)
   go_upto_region 13 with (go_at_call 35; go_must (refine (sign_yes _ rp ⟨#[40]⟩ [40] rfl HV.out p).mono ?_); rintro e wn ⟨rfl, hs, hk⟩; have HV := hid hs; have HG := hid (HG.out.trans hk); clear hs hk)
   go_upto_region 14 with (go_at_call 18; go_must (refine (name_yes _ rp HV.out k1).mono ?_); rintro e wn ⟨rfl, hs, hk⟩; have HV := hid hs; have HG := hid (HG.out.trans hk); clear hs hk; have hb := grown_blk HG.out HBX.out HRN.out; have bx := blk_cell (o := 1) (v := Value.string ⟨#[]⟩) hb rfl; have bf := blk_free (o := 1) hb; clear hb)
   have hbx := blk_set (o := 1) (grown_blk HG.out HBX.out HRN.out) (.string (textOf r1.tail))
   have HBX := hid (hbx.trans (show _ = some (Obj.cells #[.int .i64 4, .string (textOf r1.tail), .string ⟨#[]⟩, .int .i64 0, .slice none 0 0] 37 (0, 0)) from rfl))
   have HPK := hid (pkBox (j := 1) (HPK.out.trans (Pk.of_grown HG.out (Nat.le_of_lt HV0.out.lt))) HSZ.out HRB.out.1 (.string (textOf r1.tail)))
   have hvn := HV.out
   obtain ⟨nn, hvn⟩ := hvn
   have HV := hid (show PrsV _ rp L _ _ _ lv tv from ⟨_, hvn.far (j := 1) HRB.out.1 HRB.out.2.1 HRB.out.2.2 (.string (textOf r1.tail))⟩)
   clear hbx hvn bx bf HV0 HG
   generalize World.setCell _ _ _ = W4 at HBX HPK HV ⊢
   have HV0 := HV
   have HG := hid (World.grownBy.refl W4 (some rp))
   cases hq : typF f r1.tail.tail with
   | out => exact absurd (by simp [resF, p, nmM, k1, hq, Pr.bind]) hnb
   | bad =>
    have hnq : typF f r1.tail.tail ≠ .out := by rw [hq]; intro e; cases e
    have HT := hid (show WW = .bad by rw [HT0.out]; simp [resF, p, nmM, k1, hq, Pr.bind])
    go_wp2_with (go_at_call 36; go_must (refine ((typ_v f HV.out hnq).mono fun _ _ x => ResV.bad x hq).mono ?_); rintro e wn ⟨rfl, hb⟩; unfold stopP; have HB := hid (HV0.out.below2 HG.out hb); clear hb)
    rw [HT.out]
    exact ⟨rfl, rfl, Below.trans HSL.out (Below.trans HPK.out.1 HB.out)⟩
   | ok t r2 =>
    have hnq : typF f r1.tail.tail ≠ .out := by rw [hq]; intro e; cases e
    go_upto_region 15 with (go_at_call 36; go_must (refine ((typ_v f HV.out hnq).mono fun _ _ x => ResV.ok x hq).mono ?_); rintro e wn ⟨rfl, hz, hs, hk⟩; have HZ := hid hz; clear hz; have HV := hid hs; have HG := hid (HG.out.trans hk); clear hs hk; have hb := grown_blk HG.out HBX.out HRN.out; have bx := blk_cell (o := 2) (v := Value.string ⟨#[]⟩) hb rfl; have bf := blk_free (o := 2) hb; clear hb)
    have hbx := blk_set (o := 2) (grown_blk HG.out HBX.out HRN.out) (.string (sB t))
    have HBX := hid (hbx.trans (show _ = some (Obj.cells #[.int .i64 4, .string (textOf r1.tail), .string (sB t), .int .i64 0, .slice none 0 0] 37 (0, 0)) from rfl))
    have HPK := hid (pkBox (j := 2) (HPK.out.trans (Pk.of_grown HG.out (Nat.le_of_lt HV0.out.lt))) HSZ.out HRB.out.1 (.string (sB t)))
    have hvn := HV.out
    obtain ⟨nn, hvn⟩ := hvn
    have HV := hid (show PrsV _ rp L _ _ _ lv tv from ⟨_, hvn.far (j := 2) HRB.out.1 HRB.out.2.1 HRB.out.2.2 (.string (sB t))⟩)
    clear hbx hvn bx bf HV0 HG
    generalize World.setCell _ _ _ = W5 at HBX HPK HV ⊢
    have HV0 := HV
    have HG := hid (World.grownBy.refl W5 (some rp))
    by_cases sh : isSign [41] r2 = true
    rotate_left
    ·have sf := eq_false_of_ne_true sh
     have HT := hid (show WW = .bad by rw [HT0.out]; simp [resF, p, nmM, k1, hq, want, sf, Pr.bind])
     go_wp2_with (go_at_call 17; go_must (refine (want_no _ rp ⟨#[41]⟩ [41] rfl HV.out.e sf).mono ?_); rintro e wn ⟨rfl, hk⟩; unfold stopP; have HB := hid (HV0.out.below HG.out hk); clear hk)
     rw [HT.out]
     exact ⟨rfl, rfl, Below.trans HSL.out (Below.trans HPK.out.1 HB.out)⟩
    go_upto_region 18 with (go_at_call 17; go_must (refine (want_yes _ rp ⟨#[41]⟩ [41] rfl HV.out sh).mono ?_); rintro e wn ⟨rfl, hs, hk⟩; have HV := hid hs; have HG := hid (HG.out.trans hk); clear hs hk)
    have hb := grown_blk HG.out HBX.out HRN.out
    have e0 := blk_cell (o := 0) (v := Value.int .i64 4) hb rfl
    have e1 := blk_cell (o := 1) (v := Value.string (textOf r1.tail)) hb rfl
    have e2 := blk_cell (o := 2) (v := Value.string (sB t)) hb rfl
    have e3 := blk_cell (o := 3) (v := Value.int .i64 0) hb rfl
    have e4 := blk_cell (o := 4) (v := Value.slice none 0 0) hb rfl
    have HS := hid (StN.step HN.out HV.out.e (HPK.out.trans (Pk.of_grown HG.out (Nat.le_of_lt HV0.out.lt))))
    clear hb
    cases hv : blockF f r2.tail with
    | out => exact absurd (by simp [resF, p, nmM, k1, hq, want, sh, hv, Pr.bind, nd]) hnb
    | bad =>
     have hnv : blockF f r2.tail ≠ .out := by rw [hv]; intro e; cases e
     have HT := hid (show WW = .bad by rw [HT0.out]; simp [resF, p, nmM, k1, hq, want, sh, hv, Pr.bind, nd])
     go_upto_region 19 with first | (go_at_call 21; go_must (refine (t_put0 (ts := us) 4 (textOf r1.tail) (sB t) 0 (by unfold okI; omega) (htx) (Nat.le_trans HZ.out (by decide)) (okI0) HS.out).mono ?_); rintro e wn ⟨q2, rfl, hqq2, hs, hk⟩; have HQq2 := hid hqq2; clear hqq2; have HS := hid hs; clear hs hk) | (at_builtin; go_must (refine t_app rfl (.tmp 55) (.tmp 59) rfl (ts := []) (us := us) HS.out HQq2.out rfl rfl ?_); intro A1 c1 wn hs; have HS := hid hs; clear hs e0 e1 e2 e3 e4)
     go_wp2_with (go_at_call 38; go_must (refine ((H.block (ts := us ++ [.node 4 (textOf r1.tail) (sB t) 0 []]) HS.out hnv).mono fun _ _ x => Res.bad x hv).mono ?_); rintro e wn ⟨rfl, hb⟩; unfold stopP; have HB := hid hb; clear hb)
     rw [HT.out]
     exact ⟨rfl, rfl, HB.out⟩
    | ok b r9 =>
     have hnv : blockF f r2.tail ≠ .out := by rw [hv]; intro e; cases e
     have HT := hid (show WW = .ok (.node kk S noB us.length ((us ++ [.node 4 (textOf r1.tail) (sB t) 0 []]) ++ [b])) r9 by rw [HT0.out]; simp [resF, p, nmM, k1, hq, want, sh, hv, Pr.bind, nd])
     go_upto_region 19 with first | (go_at_call 21; go_must (refine (t_put0 (ts := us) 4 (textOf r1.tail) (sB t) 0 (by unfold okI; omega) (htx) (Nat.le_trans HZ.out (by decide)) (okI0) HS.out).mono ?_); rintro e wn ⟨q2, rfl, hqq2, hs, hk⟩; have HQq2 := hid hqq2; clear hqq2; have HS := hid hs; clear hs hk) | (at_builtin; go_must (refine t_app rfl (.tmp 55) (.tmp 59) rfl (ts := []) (us := us) HS.out HQq2.out rfl rfl ?_); intro A1 c1 wn hs; have HS := hid hs; clear hs e0 e1 e2 e3 e4)
     have HKL := hid (show okI (us.length : Int) by have := HUL.out; unfold okI; omega)
     have ell : (us ++ [(.node 4 (textOf r1.tail) (sB t) 0 [] : T)]).length = us.length + 1 := by simp
     go_upto_region 20 with first | (go_at_call 38; go_must (refine ((H.block (ts := us ++ [.node 4 (textOf r1.tail) (sB t) 0 []]) HS.out hnv).mono fun _ _ x => Res.ok x hv).mono ?_); rintro e wn ⟨q3, rfl, hqq3, hs⟩; have HQq3 := hid hqq3; clear hqq3; have HS := hid hs; clear hs) | (at_builtin; go_must (refine t_app rfl (.tmp 61) (.tmp 64) rfl (ts := []) (us := us ++ [.node 4 (textOf r1.tail) (sB t) 0 []]) (kv := .slice A1 (us.length + 1) c1) HS.out HQq3.out rfl rfl ?_); intro A2 c2 wn hs; rw [ell] at hs ⊢; have HS := hid hs; clear hs)
     go_wp2_with (go_at_call 21; go_must (refine (t_put (ts := []) (us := (us ++ [.node 4 (textOf r1.tail) (sB t) 0 []]) ++ [b]) kk S noB (us.length : Int) hkk hS (by decide) HKL.out HS.out).mono ?_); rintro e wn ⟨q9, rfl, hqq9, hs, hk⟩; have HQq9 := hid hqq9; clear hqq9; have HS := hid hs; clear hs hk)
     go_ret
     rw [HT.out]
     exact ⟨q9, rfl, HQq9.out, StT.weak HS.out (by omega)⟩
theorem ctr : ∀ f, Ctr f := by
 intro f
 induction f using Nat.strongRecOn with
 | _ f IH =>
  cases f with
  | zero =>
   exact { expr := fun n _ _ hne => absurd (by rw [exprF]) hne, unary := fun _ hne => absurd (by rw [unaryF]) hne, prim := fun _ hne => absurd (by rw [primF]) hne, list := fun _ _ _ _ hne => absurd (by rw [listF]) hne, beh := fun _ _ hne => absurd (by rw [behF]) hne, ins := fun _ _ hne => absurd (by rw [insF]) hne, fun_ := fun _ _ _ _ _ hne => absurd (by rw [funF]) hne, block := fun _ hne => absurd (by rw [blockF]) hne, stm := fun _ hne => absurd (by rw [stmF]) hne, ifs := fun _ hne => absurd (by rw [ifsF]) hne, sim := fun _ hne => absurd (by rw [simF]) hne }
  | succ f =>
   have H : ∀ g, g ≤ f → Ctr g := fun g hg => IH g (by omega)
   have H0 := H f (Nat.le_refl _)
   exact { expr := expr_ok f H, unary := unary_ok f H0, prim := prim_ok f H0, list := list_ok f H, beh := beh_ok f H, ins := ins_ok f H, fun_ := fun_ok f H0, block := block_ok f H, stm := stm_ok f H0, ifs := ifs_ok f H0, sim := sim_ok f H0 }
end Go.Proofs.Ytcjgagmcnmmfoaa.Pa

