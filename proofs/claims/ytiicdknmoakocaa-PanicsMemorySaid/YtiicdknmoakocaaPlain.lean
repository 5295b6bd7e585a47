/-
  value.Plain. No condition.
-/
import Derived.Test.YtiicdknmoakocaaOwn
import Derived.Test.YtiicdknmoakocaaKinds
import Derived.Test.YtiicdknmoakocaaClone
import Derived.Test.YtiicdknmoakocaaOwnL
namespace Go.Proofs.Ytiicdknmoakocaa
open Go.RowKit
set_option linter.unusedVariables false

def plainM (m : ValM) : ValM :=
  if m.k = 2 then ⟨2, if m.n = 0 then 0 else 1, ⟨#[]⟩, []⟩ else if m.k = 1 ∨ m.k = 7 ∨ m.k = 8 then ⟨m.k, m.n, ⟨#[]⟩, []⟩ else if m.k = 3 ∨ m.k = 5 then ⟨m.k, 0, m.s, []⟩
  else if m.k = 6 then ⟨6, 0, ⟨#[]⟩, m.l⟩ else if m.k = 4 then ⟨4, 0, ⟨#[]⟩, []⟩ else ⟨0, 0, ⟨#[]⟩, []⟩
theorem ok0 : okI 0 := by unfold okI; omega
def PlainPost (m : ValM) (w : World) (e : Ending) (w' : World) : Prop := (∃ A c, e = .returned (.agg #[.int .i64 m.k, .int .i64 m.n, .string m.s, .slice A m.l.length c]) ∧ OwnVal w' w.heap.size (.agg #[.int .i64 m.k, .int .i64 m.n, .string m.s, .slice A m.l.length c]) m) ∧ Kp w w'
theorem PlainPost.mk_ {m : ValM} {w w' : World} {k n : Int} {s : ByteArray} (hm : m = ⟨k, n, s, []⟩) (hk : okI k) (hn : okI n) (hs : s.size ≤ 140737488351232) (h : Kp w w') : PlainPost m w (.returned (.agg #[.int .i64 k, .int .i64 n, .string s, .slice none 0 0])) w' := by
  subst hm
  exact ⟨⟨none, 0, rfl, _, rfl, OwnI.nil _ _, fun x hx => by simp at hx, hk, hn, hs, by simp⟩, h⟩
set_option maxHeartbeats 1000000 in
theorem plain_1 (v : Value) (m : ValM) (w : World) (h : RdVal w v m) (hk0 : m.k = 1) : Calls Try.prog 58 #[v] w (PlainPost (plainM m) w) := by
  obtain ⟨lv, rfl, hlv, hk, hn, hs, _⟩ := h
  have HP := hid (show plainM m = ⟨m.k, m.n, ⟨#[]⟩, []⟩ by unfold plainM; rw [if_neg (by omega), if_pos (by omega)])
  have t1 : (m.k == 1) = true := by simp [hk0]
  have t2 : (m.k == 2) = false := by simp [hk0]
  have t3 : (m.k == 3) = false := by simp [hk0]
  have t4 : (m.k == 4) = false := by simp [hk0]
  have t5 : (m.k == 5) = false := by simp [hk0]
  have t6 : (m.k == 6) = false := by simp [hk0]
  have t7 : (m.k == 7) = false := by simp [hk0]
  have t8 : (m.k == 8) = false := by simp [hk0]
  clear hlv hk0
  go_enter Try.func58, Try.ntmps58
  go_wp2
  exact bodyPost_ret (v := .agg #[.int .i64 (m.k), .int .i64 (m.n), .string (⟨#[]⟩), .slice none 0 0]) (by simp [results, Try.results58, go_sem]) rfl (PlainPost.mk_ HP.out hk hn (by decide) (by repeat (first | exact Kp.refl _ | refine Kp.alloc ?_ _ | refine Kp.setCell ?_ (by simp) _)))
set_option maxHeartbeats 1000000 in
theorem plain_7 (v : Value) (m : ValM) (w : World) (h : RdVal w v m) (hk0 : m.k = 7) : Calls Try.prog 58 #[v] w (PlainPost (plainM m) w) := by
  obtain ⟨lv, rfl, hlv, hk, hn, hs, _⟩ := h
  have HP := hid (show plainM m = ⟨m.k, m.n, ⟨#[]⟩, []⟩ by unfold plainM; rw [if_neg (by omega), if_pos (by omega)])
  have t1 : (m.k == 1) = false := by simp [hk0]
  have t2 : (m.k == 2) = false := by simp [hk0]
  have t3 : (m.k == 3) = false := by simp [hk0]
  have t4 : (m.k == 4) = false := by simp [hk0]
  have t5 : (m.k == 5) = false := by simp [hk0]
  have t6 : (m.k == 6) = false := by simp [hk0]
  have t7 : (m.k == 7) = true := by simp [hk0]
  have t8 : (m.k == 8) = false := by simp [hk0]
  clear hlv hk0
  go_enter Try.func58, Try.ntmps58
  go_wp2
  exact bodyPost_ret (v := .agg #[.int .i64 (m.k), .int .i64 (m.n), .string (⟨#[]⟩), .slice none 0 0]) (by simp [results, Try.results58, go_sem]) rfl (PlainPost.mk_ HP.out hk hn (by decide) (by repeat (first | exact Kp.refl _ | refine Kp.alloc ?_ _ | refine Kp.setCell ?_ (by simp) _)))
set_option maxHeartbeats 1000000 in
theorem plain_8 (v : Value) (m : ValM) (w : World) (h : RdVal w v m) (hk0 : m.k = 8) : Calls Try.prog 58 #[v] w (PlainPost (plainM m) w) := by
  obtain ⟨lv, rfl, hlv, hk, hn, hs, _⟩ := h
  have HP := hid (show plainM m = ⟨m.k, m.n, ⟨#[]⟩, []⟩ by unfold plainM; rw [if_neg (by omega), if_pos (by omega)])
  have t1 : (m.k == 1) = false := by simp [hk0]
  have t2 : (m.k == 2) = false := by simp [hk0]
  have t3 : (m.k == 3) = false := by simp [hk0]
  have t4 : (m.k == 4) = false := by simp [hk0]
  have t5 : (m.k == 5) = false := by simp [hk0]
  have t6 : (m.k == 6) = false := by simp [hk0]
  have t7 : (m.k == 7) = false := by simp [hk0]
  have t8 : (m.k == 8) = true := by simp [hk0]
  clear hlv hk0
  go_enter Try.func58, Try.ntmps58
  go_wp2
  exact bodyPost_ret (v := .agg #[.int .i64 (m.k), .int .i64 (m.n), .string (⟨#[]⟩), .slice none 0 0]) (by simp [results, Try.results58, go_sem]) rfl (PlainPost.mk_ HP.out hk hn (by decide) (by repeat (first | exact Kp.refl _ | refine Kp.alloc ?_ _ | refine Kp.setCell ?_ (by simp) _)))
set_option maxHeartbeats 1000000 in
theorem plain_3 (v : Value) (m : ValM) (w : World) (h : RdVal w v m) (hk0 : m.k = 3) : Calls Try.prog 58 #[v] w (PlainPost (plainM m) w) := by
  obtain ⟨lv, rfl, hlv, hk, hn, hs, _⟩ := h
  have HP := hid (show plainM m = ⟨m.k, 0, m.s, []⟩ by unfold plainM; rw [if_neg (by omega), if_neg (by omega), if_pos (by omega)])
  have t1 : (m.k == 1) = false := by simp [hk0]
  have t2 : (m.k == 2) = false := by simp [hk0]
  have t3 : (m.k == 3) = true := by simp [hk0]
  have t4 : (m.k == 4) = false := by simp [hk0]
  have t5 : (m.k == 5) = false := by simp [hk0]
  have t6 : (m.k == 6) = false := by simp [hk0]
  have t7 : (m.k == 7) = false := by simp [hk0]
  have t8 : (m.k == 8) = false := by simp [hk0]
  clear hlv hk0
  go_enter Try.func58, Try.ntmps58
  go_wp2
  exact bodyPost_ret (v := .agg #[.int .i64 (m.k), .int .i64 (0), .string (m.s), .slice none 0 0]) (by simp [results, Try.results58, go_sem]) rfl (PlainPost.mk_ HP.out hk ok0 hs (by repeat (first | exact Kp.refl _ | refine Kp.alloc ?_ _ | refine Kp.setCell ?_ (by simp) _)))
set_option maxHeartbeats 1000000 in
theorem plain_5 (v : Value) (m : ValM) (w : World) (h : RdVal w v m) (hk0 : m.k = 5) : Calls Try.prog 58 #[v] w (PlainPost (plainM m) w) := by
  obtain ⟨lv, rfl, hlv, hk, hn, hs, _⟩ := h
  have HP := hid (show plainM m = ⟨m.k, 0, m.s, []⟩ by unfold plainM; rw [if_neg (by omega), if_neg (by omega), if_pos (by omega)])
  have t1 : (m.k == 1) = false := by simp [hk0]
  have t2 : (m.k == 2) = false := by simp [hk0]
  have t3 : (m.k == 3) = false := by simp [hk0]
  have t4 : (m.k == 4) = false := by simp [hk0]
  have t5 : (m.k == 5) = true := by simp [hk0]
  have t6 : (m.k == 6) = false := by simp [hk0]
  have t7 : (m.k == 7) = false := by simp [hk0]
  have t8 : (m.k == 8) = false := by simp [hk0]
  clear hlv hk0
  go_enter Try.func58, Try.ntmps58
  go_wp2
  exact bodyPost_ret (v := .agg #[.int .i64 (m.k), .int .i64 (0), .string (m.s), .slice none 0 0]) (by simp [results, Try.results58, go_sem]) rfl (PlainPost.mk_ HP.out hk ok0 hs (by repeat (first | exact Kp.refl _ | refine Kp.alloc ?_ _ | refine Kp.setCell ?_ (by simp) _)))
set_option maxHeartbeats 1000000 in
theorem plain_4 (v : Value) (m : ValM) (w : World) (h : RdVal w v m) (hk0 : m.k = 4) : Calls Try.prog 58 #[v] w (PlainPost (plainM m) w) := by
  obtain ⟨lv, rfl, hlv, hk, hn, hs, _⟩ := h
  have HP := hid (show plainM m = ⟨m.k, 0, ⟨#[]⟩, []⟩ by unfold plainM; rw [if_neg (by omega), if_neg (by omega), if_neg (by omega), if_neg (by omega), if_pos hk0, hk0])
  have t1 : (m.k == 1) = false := by simp [hk0]
  have t2 : (m.k == 2) = false := by simp [hk0]
  have t3 : (m.k == 3) = false := by simp [hk0]
  have t4 : (m.k == 4) = true := by simp [hk0]
  have t5 : (m.k == 5) = false := by simp [hk0]
  have t6 : (m.k == 6) = false := by simp [hk0]
  have t7 : (m.k == 7) = false := by simp [hk0]
  have t8 : (m.k == 8) = false := by simp [hk0]
  clear hlv hk0
  go_enter Try.func58, Try.ntmps58
  go_wp2
  exact bodyPost_ret (v := .agg #[.int .i64 (m.k), .int .i64 (0), .string (⟨#[]⟩), .slice none 0 0]) (by simp [results, Try.results58, go_sem]) rfl (PlainPost.mk_ HP.out hk ok0 (by decide) (by repeat (first | exact Kp.refl _ | refine Kp.alloc ?_ _ | refine Kp.setCell ?_ (by simp) _)))
set_option maxHeartbeats 1000000 in
theorem plain_2z (v : Value) (m : ValM) (w : World) (h : RdVal w v m) (hk0 : m.k = 2) (h0 : m.n = 0) : Calls Try.prog 58 #[v] w (PlainPost (plainM m) w) := by
  obtain ⟨lv, rfl, hlv, hk, hn, hs, _⟩ := h
  have HP := hid (show plainM m = ⟨m.k, 0, ⟨#[]⟩, []⟩ by unfold plainM; rw [if_pos hk0, if_pos h0, hk0])
  have t1 : (m.k == 1) = false := by simp [hk0]
  have t2 : (m.k == 2) = true := by simp [hk0]
  have t3 : (m.k == 3) = false := by simp [hk0]
  have t4 : (m.k == 4) = false := by simp [hk0]
  have t5 : (m.k == 5) = false := by simp [hk0]
  have t6 : (m.k == 6) = false := by simp [hk0]
  have t7 : (m.k == 7) = false := by simp [hk0]
  have t8 : (m.k == 8) = false := by simp [hk0]
  have hne : (m.n != 0) = false := by simp [h0]
  clear hlv hk0 h0
  go_enter Try.func58, Try.ntmps58
  go_wp2
  exact bodyPost_ret (v := .agg #[.int .i64 (m.k), .int .i64 (0), .string (⟨#[]⟩), .slice none 0 0]) (by simp [results, Try.results58, go_sem]) rfl (PlainPost.mk_ HP.out hk ok0 (by decide) (by repeat (first | exact Kp.refl _ | refine Kp.alloc ?_ _ | refine Kp.setCell ?_ (by simp) _)))
set_option maxHeartbeats 1000000 in
theorem plain_2p (v : Value) (m : ValM) (w : World) (h : RdVal w v m) (hk0 : m.k = 2) (h0 : ¬ m.n = 0) : Calls Try.prog 58 #[v] w (PlainPost (plainM m) w) := by
  obtain ⟨lv, rfl, hlv, hk, hn, hs, _⟩ := h
  have HP := hid (show plainM m = ⟨m.k, 1, ⟨#[]⟩, []⟩ by unfold plainM; rw [if_pos hk0, if_neg h0, hk0])
  have t1 : (m.k == 1) = false := by simp [hk0]
  have t2 : (m.k == 2) = true := by simp [hk0]
  have t3 : (m.k == 3) = false := by simp [hk0]
  have t4 : (m.k == 4) = false := by simp [hk0]
  have t5 : (m.k == 5) = false := by simp [hk0]
  have t6 : (m.k == 6) = false := by simp [hk0]
  have t7 : (m.k == 7) = false := by simp [hk0]
  have t8 : (m.k == 8) = false := by simp [hk0]
  have hne : (m.n != 0) = true := by simp [h0]
  clear hlv hk0 h0
  go_enter Try.func58, Try.ntmps58
  go_wp2
  exact bodyPost_ret (v := .agg #[.int .i64 (m.k), .int .i64 (1), .string (⟨#[]⟩), .slice none 0 0]) (by simp [results, Try.results58, go_sem]) rfl (PlainPost.mk_ HP.out hk (by unfold okI; omega) (by decide) (by repeat (first | exact Kp.refl _ | refine Kp.alloc ?_ _ | refine Kp.setCell ?_ (by simp) _)))
set_option maxHeartbeats 1000000 in
theorem plain_no (v : Value) (m : ValM) (w : World) (h : RdVal w v m) (hk0 : KTests m.k false false false false false false false false) : Calls Try.prog 58 #[v] w (PlainPost (plainM m) w) := by
  obtain ⟨lv, rfl, hlv, hk, hn, hs, _⟩ := h
  have HP := hid (show plainM m = ⟨0, 0, ⟨#[]⟩, []⟩ by unfold plainM; have := hk0.t1; have := hk0.t2; have := hk0.t3; have := hk0.t4; have := hk0.t5; have := hk0.t6; have := hk0.t7; have := hk0.t8; simp only [beq_eq_false_iff_ne] at *; rw [if_neg (by omega), if_neg (by omega), if_neg (by omega), if_neg (by omega), if_neg (by omega)])
  obtain ⟨t1, t2, t3, t4, t5, t6, t7, t8⟩ := hk0
  clear hlv
  go_enter Try.func58, Try.ntmps58
  go_wp2
  exact bodyPost_ret (v := .agg #[.int .i64 (0), .int .i64 (0), .string (⟨#[]⟩), .slice none 0 0]) (by simp [results, Try.results58, go_sem]) rfl (PlainPost.mk_ HP.out ok0 ok0 (by decide) (by repeat (first | exact Kp.refl _ | refine Kp.alloc ?_ _ | refine Kp.setCell ?_ (by simp) _)))
set_option maxHeartbeats 1000000 in
theorem plain_6 (v : Value) (m : ValM) (w : World) (h : RdVal w v m) (hk0 : m.k = 6) : Calls Try.prog 58 #[v] w (PlainPost (plainM m) w) := by
  obtain ⟨lv, rfl, hlv, hk, hn, hs, hb⟩ := h
  have HP := hid (show plainM m = ⟨m.k, 0, ⟨#[]⟩, m.l⟩ by unfold plainM; rw [if_neg (by omega), if_neg (by omega), if_neg (by omega), if_pos hk0, hk0])
  have t1 : (m.k == 1) = false := by simp [hk0]
  have t2 : (m.k == 2) = false := by simp [hk0]
  have t3 : (m.k == 3) = false := by simp [hk0]
  have t4 : (m.k == 4) = false := by simp [hk0]
  have t5 : (m.k == 5) = false := by simp [hk0]
  have t6 : (m.k == 6) = true := by simp [hk0]
  have t7 : (m.k == 7) = false := by simp [hk0]
  have t8 : (m.k == 8) = false := by simp [hk0]
  have HL := hid hlv
  obtain ⟨_, hr, A, c, rfl, hq1, hq2⟩ := hlv
  have HR := hid hr
  clear hk0 hr hq1 hq2
  go_enter Try.func58, Try.ntmps58
  go_wp2_with fail
  have hc := clone_ints _ m.l _ (HL.out.kp ((((Kp.refl w).alloc (.cells #[.int .i64 m.k, .int .i64 m.n, .string m.s, .slice A m.l.length c] 25)).alloc (.cells #[.int .i64 0, .int .i64 0, .string ⟨#[]⟩, .slice none 0 0] 25)).alloc (.cells #[.int .i64 m.k, .int .i64 0, .string ⟨#[]⟩, .slice none 0 0] 25)))
  refine hc.mono ?_
  clear hc
  rintro e w1 ⟨⟨v1, rfl, hown1⟩, hb1⟩
  obtain ⟨A1, c1, rfl⟩ := own_form hown1
  obtain ⟨hc1, hf1, hz1⟩ := kp_at hb1 (w.heap.size + 3) (by simp)
  have HB := hid hb1; have HO := hid hown1
  clear hb1 hown1
  go_wp2_with fail
  have hkp : Kp w w1 := ((((Kp.refl w).alloc _).alloc _).alloc _).trans HB.out
  have hown2 : OwnI w1 (w.heap.size + 3) (.slice A1 m.l.length c1) m.l := by simpa using HO.out
  have hfin : OwnI (((((w1.setCell ⟨w.heap.size + 1 + 1, 3, none⟩ (.slice A1 m.l.length c1)).setCell ⟨w.heap.size + 1, 0, none⟩ (.int .i64 m.k)).setCell ⟨w.heap.size + 1, 1, none⟩ (.int .i64 0)).setCell ⟨w.heap.size + 1, 2, none⟩ (.string ⟨#[]⟩)).setCell ⟨w.heap.size + 1, 3, none⟩ (.slice A1 m.l.length c1)) w.heap.size (.slice A1 m.l.length c1) m.l :=
    own_base (B := w.heap.size + 3) (by omega) (ownsRow_setCell_below (ownsRow_setCell_below (ownsRow_setCell_below (ownsRow_setCell_below (ownsRow_setCell_below hown2 (by simp) _) (by simp) _) (by simp) _) (by simp) _) (by simp) _)
  have hkp2 : Kp w (((((w1.setCell ⟨w.heap.size + 1 + 1, 3, none⟩ (.slice A1 m.l.length c1)).setCell ⟨w.heap.size + 1, 0, none⟩ (.int .i64 m.k)).setCell ⟨w.heap.size + 1, 1, none⟩ (.int .i64 0)).setCell ⟨w.heap.size + 1, 2, none⟩ (.string ⟨#[]⟩)).setCell ⟨w.heap.size + 1, 3, none⟩ (.slice A1 m.l.length c1)) := ((((hkp.setCell (by simp; omega) _).setCell (by simp) _).setCell (by simp) _).setCell (by simp) _).setCell (by simp) _
  exact bodyPost_ret (v := .agg #[.int .i64 m.k, .int .i64 0, .string ⟨#[]⟩, .slice A1 m.l.length c1]) (by simp [results, Try.results58, go_sem, hc1]) rfl (by rw [HP.out]; exact ⟨⟨A1, c1, rfl, _, rfl, hfin, HR.out, hk, ok0, (by show (⟨#[]⟩ : ByteArray).size ≤ _; decide), hb⟩, hkp2⟩)
/-- value.Plain. -/
theorem plain_any (v : Value) (m : ValM) (w : World) (h : RdVal w v m) : Calls Try.prog 58 #[v] w (PlainPost (plainM m) w) := by
  rcases kind_cases m.k with h0 | h0 | h0 | h0 | h0 | h0 | h0 | h0 | h0
  · exact plain_1 v m w h h0
  · by_cases hz : m.n = 0
    · exact plain_2z v m w h h0 hz
    · exact plain_2p v m w h h0 hz
  · exact plain_3 v m w h h0
  · exact plain_4 v m w h h0
  · exact plain_5 v m w h h0
  · exact plain_6 v m w h h0
  · exact plain_7 v m w h h0
  · exact plain_8 v m w h h0
  · exact plain_no v m w h h0
end Go.Proofs.Ytiicdknmoakocaa
