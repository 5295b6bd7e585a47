/-
  own, the laws' copy of a value. No condition but the reach of what comes in.
-/
import Derived.Test.YtiicdknmoakocaaValM
import Derived.Test.YtiicdknmoakocaaShelf
namespace Go.Proofs.Ytiicdknmoakocaa
open Go.RowKit

/-- A Value whose list is a row of the call's own. -/
def OwnVal (w : World) (base : Nat) (v : Value) (m : ValM) : Prop := ∃ lv, v = .agg #[.int .i64 m.k, .int .i64 m.n, .string m.s, lv] ∧ OwnI w base lv m.l ∧ (∀ x ∈ m.l, okI x) ∧ okI m.k ∧ okI m.n ∧ m.s.size ≤ 140737488351232 ∧ m.l.length * 8 ≤ 140737488351232
theorem OwnVal.rd {w : World} {base : Nat} {v : Value} {m : ValM} (h : OwnVal w base v m) : RdVal w v m := by
  obtain ⟨lv, h1, h2, h3, h4, h5, h6, h7⟩ := h
  exact ⟨lv, h1, h2.rd (by omega) h3, h4, h5, h6, h7⟩
def OwnPost (m : ValM) (w : World) (e : Ending) (w' : World) : Prop := (∃ v', e = .returned v' ∧ OwnVal w' w.heap.size v' m) ∧ Kp w w'
theorem own_keep {w w' : World} {base : Nat} {lv : Value} {xs : List Int} (h : OwnI w base lv xs) (hk : Kp w w') : OwnI w' base lv xs := by
  refine World.ownsRow.kept h (row := none) ⟨hk.os, hk.tape, hk.output, hk.size, fun k hk1 _ => hk.block k hk1⟩ ?_
  rcases h.2 with ⟨rfl, _⟩ | ⟨g, cap, cur, rfl, _⟩
  · exact .inl rfl
  · exact .inr (by simp [Value.ownBlock])

set_option maxHeartbeats 1000000 in
theorem own_any (v : Value) (m : ValM) (w : World) (h : RdVal w v m) : Calls Try.prog 14 #[v] w (OwnPost m w) := by
  obtain ⟨lv, rfl, hl, hk, hn, hs, hb⟩ := h
  have HL := hid hl
  obtain ⟨_, hr, A, c, rfl, hc, hcell⟩ := hl
  have HR := hid hr
  clear hcell hr
  have hkp : Kp w ((w.alloc (.cells #[.int .i64 m.k, .int .i64 m.n, .string m.s, .slice A m.l.length c] 25)).alloc (.cells #[.int .i64 0, .int .i64 0, .string ⟨#[]⟩, .slice none 0 0] 25)) := ((Kp.refl w).alloc _).alloc _
  go_enter Try.func14, Try.ntmps14
  go_wp2_with (at_builtin; go_must (refine app_src elInt rfl (.const (.slice none 0 0)) (.tmp 4) rfl (World.ownsRow_nil _ (w.heap.size + 2) _ _) rfl (m.l.map intV) _ _ _ rfl (by simp) ((HL.out.kp hkp).src).2 (oneInt _) (by unfold maxLen; omega) (by omega) (by simp) ?_); intro v1 w1 hown1 hg1 hm1 hb1; obtain ⟨A1, c1, rfl⟩ := own_form hown1; obtain ⟨hc1, hf1⟩ := below_cells hb1)
  have hfin : OwnI (((((w1.setCell ⟨w.heap.size, 3, none⟩ (.slice A1 m.l.length c1)).setCell ⟨w.heap.size + 1, 0, none⟩ (.int .i64 m.k)).setCell ⟨w.heap.size + 1, 1, none⟩ (.int .i64 m.n)).setCell ⟨w.heap.size + 1, 2, none⟩ (.string m.s)).setCell ⟨w.heap.size + 1, 3, none⟩ (.slice A1 m.l.length c1)) w.heap.size (.slice A1 m.l.length c1) m.l := by
    rw [Nat.zero_add, List.nil_append] at hown1
    refine own_base (B := w.heap.size + 2) (by omega) ?_
    exact ownsRow_setCell_below (ownsRow_setCell_below (ownsRow_setCell_below (ownsRow_setCell_below (ownsRow_setCell_below hown1 (by simp) _) (by simp) _) (by simp) _) (by simp) _) (by simp) _
  have hkp2 : Kp w (((((w1.setCell ⟨w.heap.size, 3, none⟩ (.slice A1 m.l.length c1)).setCell ⟨w.heap.size + 1, 0, none⟩ (.int .i64 m.k)).setCell ⟨w.heap.size + 1, 1, none⟩ (.int .i64 m.n)).setCell ⟨w.heap.size + 1, 2, none⟩ (.string m.s)).setCell ⟨w.heap.size + 1, 3, none⟩ (.slice A1 m.l.length c1)) :=
    (((((Kp.trans hkp (Below.mono hb1 (by simp))).setCell (by simp) _).setCell (by simp) _).setCell (by simp) _).setCell (by simp) _).setCell (by simp) _
  exact bodyPost_ret (v := .agg #[.int .i64 m.k, .int .i64 m.n, .string m.s, .slice A1 m.l.length c1]) (by simp [results, Try.results14, go_sem, hc1]) rfl ⟨⟨_, rfl, _, rfl, hfin, HR.out, hk, hn, hs, hb⟩, hkp2⟩

end Go.Proofs.Ytiicdknmoakocaa
