/-
  The laws' own roomy: a copy of numbers with marked room behind it. Condition: what comes in lies within the reach.
-/
import Derived.Test.YtiicdknmoakocaaOwnL
import Derived.Test.YtiicdknmoakocaaInts
import Derived.Test.YtiicdknmoakocaaBox
import Derived.Laws.CopyOwn
import Derived.Deep.QuietTactic
import Derived.BigQuiet
import Derived.Lib.SmallJoins
namespace Go.Proofs.Ytiicdknmoakocaa
open Go.RowKit
set_option linter.unusedVariables false

/-- The block g holds these numbers, and two marks behind them. -/
def RoomAt (w : World) (g : Nat) (xs : List Int) : Prop := w.heap[g]? = some (.cells ((xs ++ [-4711, -4712]).map intV).toArray 3 (0, 0))
theorem RoomAt.kp {w w' : World} {g : Nat} {xs : List Int} (h : RoomAt w g xs) (hk : Kp w w') : RoomAt w' g xs := by
  unfold RoomAt at *
  rw [hk.block g (Array.getElem?_eq_some_iff.1 h).1]; exact h
theorem RoomAt.below {B : Nat} {w w' : World} {g : Nat} {xs : List Int} (h : RoomAt w g xs) (hk : Below B w w') (hg : g < B) : RoomAt w' g xs := by
  unfold RoomAt at *
  rw [hk.block g hg]; exact h
theorem RoomAt.setCell {w : World} {g b i : Nat} {xs : List Int} (h : RoomAt w g xs) (hne : b ≠ g) (v : Value) : RoomAt (w.setCell ⟨b, i, none⟩ v) g xs := by
  unfold RoomAt at *
  simp only [World.setCell, Array.getElem?_modify]
  rw [if_neg hne]; exact h
theorem RoomAt.lt {w : World} {g : Nat} {xs : List Int} (h : RoomAt w g xs) : g < w.heap.size := (Array.getElem?_eq_some_iff.1 h).1
theorem RoomAt.rd {w : World} {g : Nat} {xs : List Int} (h : RoomAt w g xs) (hl : xs.length * 8 ≤ 140737488355328) (hr : ∀ x ∈ xs, okI x) : RdInts w (.slice (some ⟨g, 0, none⟩) xs.length (xs.length + 2)) xs := by
  refine ⟨hl, hr, _, _, rfl, by omega, fun hp => ⟨g, 0, rfl, h.lt, fun j hj => ?_⟩⟩
  unfold RoomAt at h
  simp only [World.cell?, h, Nat.zero_add]
  simp only [Option.isSome_none, Bool.false_eq_true, if_false, List.getElem?_toArray]
  rw [List.map_append, List.getElem?_append_left (by simpa using hj)]
  simp [List.getD, List.getElem?_eq_getElem hj]
def RoomPost (xs : List Int) (w : World) (e : Ending) (w' : World) : Prop := (∃ g, e = .returned (.slice (some ⟨g, 0, none⟩) xs.length (xs.length + 2)) ∧ w.heap.size ≤ g ∧ RoomAt w' g xs) ∧ Kp w w'
theorem mk_list (n : Nat) : madeCells #[.int .i64 0] n = (List.replicate n (Value.int .i64 0)).toArray := by
  apply Array.ext
  · simp [madeCells]
  · intro i h1 h2
    simp [madeCells, Nat.mod_one]
theorem mk_heap (w : World) (n : Nat) (e : TypeId) : (w.alloc (.cells (madeCells #[.int .i64 0] n) e)).heap[w.heap.size]? = some (.cells (List.replicate n (Value.int .i64 0)).toArray e (0, 0)) := by
  rw [mk_list]; exact heap_alloc_new w _
theorem len_inf : (Try.prog.info? 3).map (·.size) = some 1 := by kernel_rfl
theorem spl (xs : List Int) : splice (List.replicate (xs.length + 2) (Value.int .i64 0)) 0 (xs.map intV) = xs.map intV ++ [.int .i64 0, .int .i64 0] := by
  unfold splice
  rw [List.take_zero, List.nil_append, Nat.zero_add, List.length_map, List.drop_replicate, show xs.length + 2 - xs.length = 2 by omega]
  rfl
theorem src_alloc {w : World} {A : Option Addr} {n : Nat} {news : List Value} (o : Obj) (h : 0 < n → ∃ ad, A = some ad ∧ ∀ j u, news[j]? = some u → w.cell? (ad.add j) = some u) : 0 < n → ∃ ad, A = some ad ∧ ∀ j u, news[j]? = some u → (w.alloc o).cell? (ad.add j) = some u := fun hp => by
  obtain ⟨ad, e, hc⟩ := h hp
  exact ⟨ad, e, fun j u hu => Lib.cell?_alloc_some _ (hc j u hu)⟩
theorem heap_set {w : World} {g : Nat} {l : List Value} {T : TypeId} (h : w.heap[g]? = some (.cells l.toArray T (0, 0))) (i : Nat) (v : Value) : (w.setCell ⟨g, i, none⟩ v).heap[g]? = some (.cells (l.set i v).toArray T (0, 0)) := by
  simp [World.setCell, Array.getElem?_modify, h]
/-- copy into a row of the call's own: what the run gives. -/
theorem run_cp {w : World} {g : Nat} (xs : List Int) (A : Option Addr) (c : Nat) (cur : List Value) (hg : w.heap[g]? = some (.cells cur.toArray 3 (0, 0))) (hl : xs.length ≤ cur.length) (dCap : Nat) (hs : 0 < xs.length → ∃ ad, A = some ad ∧ ∀ j u, (xs.map intV)[j]? = some u → w.cell? (ad.add j) = some u) (base : Nat) (hb : base ≤ g) :
    ∃ W1, Sem.run Try.prog (Builtin.copy_ #[23, 23] 3 #[.slice (some ⟨g, 0, none⟩) cur.length dCap, .slice A xs.length c]) w = .ok (.int .i64 xs.length) W1 ∧ W1.heap[g]? = some (.cells (splice cur 0 (xs.map intV)).toArray 3 (0, 0)) ∧ Below base w W1 ∧ W1.heap.size = w.heap.size := by
  rcases Nat.eq_zero_or_pos xs.length with h0 | h0
  · have h1 : xs = [] := List.eq_nil_of_length_eq_zero h0
    subst h1
    refine ⟨w, ?_, by simpa [splice] using hg, Below.refl _ _, rfl⟩
    exact run_copy_none w _ _ _ 3 _ _ _ _ _ _ Try.underlying23 len_inf (by simp)
  · obtain ⟨ad, rfl, hc⟩ := hs h0
    have hn : (xs.map intV).length = Nat.min xs.length cur.length := by rw [List.length_map]; exact (Nat.min_eq_left hl).symm
    have := run_copy_row (P := Try.prog) w 23 23 3 3 g 0 cur.length dCap ad xs.length c cur.toArray 3 (xs.map intV) Try.underlying23 len_inf hg hn hc (by simpa using hl) (oneInt _)
    refine ⟨w.setRow g (List.take 0 cur.toArray.toList ++ List.map intV xs ++ List.drop (0 + (List.map intV xs).length) cur.toArray.toList).toArray, by rw [this, List.length_map]; rfl, ?_, below_setRow (Below.refl _ _) hb _, by simp [World.setRow]⟩
    have h2 := setRow_heap w g _ ((List.take 0 cur.toArray.toList ++ List.map intV xs ++ List.drop (0 + (List.map intV xs).length) cur.toArray.toList).toArray) 3 _ hg
    rw [h2]; unfold splice; simp
set_option maxRecDepth 20000 in
set_option maxHeartbeats 1000000 in
theorem roomy_any (v : Value) (xs : List Int) (w : World) (h : RdInts w v xs) (hl : (xs.length + 2) * 8 ≤ 140737488355328) : Calls Try.prog 31 #[v] w (RoomPost xs w) := by
  have HL := hid h
  obtain ⟨i0, hT, hi, hz0, hz1, hz2, _, _⟩ := elInt
  obtain ⟨h0, _, A, c, rfl, hc, hcell⟩ := h
  have HS := hid (HL.out.src).2
  have hmk : ∀ u : World, (Instr.makeSlice 23 (.int .i64 ((xs.length : Int) + 2)) (.int .i64 ((xs.length : Int) + 2))).run Try.prog u =
      .ok (.slice (some ⟨u.heap.size, 0, none⟩) (xs.length + 2) (xs.length + 2)) (u.alloc (.cells (madeCells #[.int .i64 0] (xs.length + 2)) 3)) := fun u => by
    have h := run_make (P := Try.prog) u 23 3 i0 (.int .i64 0) hT hi hz0 .i64 .i64 ((xs.length : Int) + 2) ((xs.length : Int) + 2) (by omega) (Int.le_refl _) (by rw [hz2]; omega) (by omega)
    have e : ((xs.length : Int) + 2).toNat = xs.length + 2 := by omega
    rw [e] at h
    simpa [hz1, Value.cells] using h
  clear hcell
  have hcp := run_cp xs A c (List.replicate (xs.length + 2) (Value.int .i64 0)) (mk_heap w (xs.length + 2) 3) (by simp) (xs.length + 2) (src_alloc _ HS.out) w.heap.size (Nat.le_refl _)
  rw [List.length_replicate, spl] at hcp
  obtain ⟨W1, hrun, hg1, hb1, hz1'⟩ := hcp
  have HG := hid hg1
  have hc1 : W1.cell? ⟨w.heap.size, xs.length, none⟩ = some (.int .i64 0) := by simp [World.cell?, hg1]
  have hc2 : W1.cell? ⟨w.heap.size, xs.length + 1, none⟩ = some (.int .i64 0) := by simp [World.cell?, hg1]
  have hf1 : ∀ j, W1.frozen? ⟨w.heap.size, j, none⟩ = false := by intro j; simp [World.frozen?, hg1]
  clear hg1 hi hz0 hz1 hz2 hT hc
  go_enter Try.func31, Try.ntmps31
  go_wp2
  go_ret
  refine ⟨⟨w.heap.size, rfl, Nat.le_refl _, ?_⟩, ((Below.trans ((Kp.refl w).alloc _) hb1).setCell (Nat.le_refl _) _).setCell (Nat.le_refl _) _⟩
  unfold RoomAt
  rw [heap_set (heap_set HG.out xs.length _) (xs.length + 1) _]
  have e : ((xs.map intV ++ [Value.int .i64 0, Value.int .i64 0]).set xs.length (.int .i64 (-4711))).set (xs.length + 1) (.int .i64 (-4712)) = (xs ++ [-4711, -4712]).map intV := by
    rw [List.set_append_right _ _ (by simp), List.length_map, Nat.sub_self, List.set_append_right _ _ (by simp), List.length_map, show xs.length + 1 - xs.length = 1 by omega, List.map_append]
    rfl
  rw [e]

/-! ### scribble: a row of the call's own is written over, behind its end too -/
/-- A row of ints of the call's own (whatever it holds). -/
def IntRow (w : World) (base : Nat) (v : Value) (n : Nat) : Prop := ∃ xs : List Int, xs.length = n ∧ OwnI w base v xs
theorem IntRow.ge {w : World} {base : Nat} {v : Value} {n : Nat} (h : IntRow w base v n) : (v = .slice none 0 0 ∧ n = 0) ∨ ∃ g cap cur, v = .slice (some ⟨g, 0, none⟩) n cap ∧ base ≤ g ∧ w.heap[g]? = some (.cells cur 3 (0, 0)) ∧ n ≤ cap ∧ cur.size = cap := by
  obtain ⟨xs, rfl, h1, h2⟩ := h
  rcases h2 with ⟨rfl, h0⟩ | ⟨g, cap, cur, hv, hb, hg, hnc, _, hsz, _⟩
  · exact .inl ⟨rfl, h0⟩
  · exact .inr ⟨g, cap, cur, hv, hb, hg, hnc, by simpa using hsz⟩
/-- The blocks from base on may have turned, the others not. -/
theorem own_set {w : World} {base g i : Nat} {xs : List Int} {cap : Nat} (h : OwnI w base (.slice (some ⟨g, 0, none⟩) xs.length cap) xs) (hi : i < xs.length) (x : Int) : OwnI (w.setCell ⟨g, i, none⟩ (intV x)) base (.slice (some ⟨g, 0, none⟩) (xs.set i x).length cap) (xs.set i x) := by
  obtain ⟨h1, h2⟩ := h
  refine ⟨by simp, .inr ?_⟩
  rcases h2 with ⟨h2, _⟩ | ⟨g', cap', cur, hv, hb, hg, hnc, hm, hsz, htk⟩
  · cases h2
  · cases hv
    have hg' : w.heap[g]? = some (.cells (cur.toList).toArray 3 (0, 0)) := by rw [Array.toArray_toList]; exact hg
    refine ⟨g, cap, (cur.toList.set i (intV x)).toArray, by rw [List.length_set], hb, heap_set hg' i _, by simpa using hnc, hm, by simpa using hsz, ?_⟩
    rw [Nat.mul_one] at htk ⊢
    rw [List.length_set]
    show (cur.toList.set i (intV x)).take xs.length = _
    rw [List.take_set, htk, List.map_set]
theorem row_head {w : World} {base n : Nat} {v : Value} {xs : List Value} (h : w.ownsRow base 3 1 v (n + 3) xs) : ∃ g c, v = .slice (some ⟨g, 0, none⟩) (n + 3) c ∧ base ≤ g ∧ n + 3 ≤ c ∧ w.cell? ⟨g, 0, none⟩ = some (cellD w g 0) ∧ w.frozen? ⟨g, 0, none⟩ = false := by
  rcases h.2 with ⟨_, h2⟩ | ⟨g, cap, cur, hv, hb, hg, hnc, hm, hsz, _⟩
  · omega
  · refine ⟨g, cap, hv, hb, hnc, ?_⟩
    exact BoxAt.mk_ (v := cur[0]'(by omega)) (by simp [World.cell?, hg]) (by simp [World.frozen?, hg])
set_option maxRecDepth 20000 in
set_option maxHeartbeats 1000000 in
theorem scribble_any (v : Value) (xs : List Int) (w : World) (base : Nat) (h : OwnI w base v xs) (hl : (xs.length + 3) * 8 ≤ 140737488355328) (hb : base ≤ w.heap.size) : Calls Try.prog 12 #[v] w fun e w' => e = .returned (.tuple #[]) ∧ Below base w w' := by
  obtain ⟨A, c, rfl⟩ := own_form h
  have HO := hid h
  clear h
  go_enter Try.func12, Try.ntmps12
  go_wp2
  go_loopw [2] (fun i wr => ∃ (k : Nat) (ys : List Int), k ≤ xs.length ∧ i = .int .i64 k ∧ ys.length = xs.length ∧ OwnI wr base (.slice A xs.length c) ys ∧ Below base w wr) (fun i _ => xs.length - (intOf i).toNat)
  case atStart => exact ⟨0, xs, by omega, rfl, rfl, HO.out, Below.refl _ _⟩
  case round =>
    obtain ⟨k, ys, hk, rfl, hys, ho, hkp⟩ := hrel
    by_cases hlt : k < xs.length
    · have i1 : (k : Int) < (xs.length : Int) := by omega
      have HO1 := hid ho
      rcases ho.2 with ⟨h2, _⟩ | ⟨g, cap, cur, hv, hbg, hg, hnc, hm, hsz, htk⟩
      · exfalso; injection h2 with _ h3 _; omega
      · injection hv with e1 e2 e3
        subst e1
        subst e3
        have hcl : wr.cell? ⟨g, k, none⟩ = some (intV (ys.getD k 0)) := by
          have h3 : cur.toList[k]? = (ys.map intV)[k]? := by rw [← htk, List.getElem?_take, if_pos (by omega)]
          rw [Array.getElem?_toList] at h3
          simp [World.cell?, hg, h3, List.getD, List.getElem?_eq_getElem (show k < ys.length by omega)]
        have hfr : wr.frozen? ⟨g, k, none⟩ = false := by simp [World.frozen?, hg]
        have HW : Hid (OwnI (wr.setCell ⟨g, k, none⟩ (.int .i64 (-99))) base (.slice (some ⟨g, 0, none⟩) xs.length c) (ys.set k (-99))) := hid (by
          have h4 := HO1.out
          rw [← hys] at h4
          have := own_set h4 (show k < ys.length by omega) (-99)
          rw [List.length_set, hys] at this
          exact this)
        have HK : Hid (Below base w (wr.setCell ⟨g, k, none⟩ (.int .i64 (-99)))) := hid (hkp.setCell hbg _)
        clear hg hm hsz htk hnc e2 HO1 ho
        go_wp2
        go_roundw
        case rel => exact ⟨k + 1, _, by omega, by simp, by rw [List.length_set]; exact hys, HW.out, HK.out⟩
        case measure => simp [intOf]; omega
    · obtain rfl : k = xs.length := by omega
      have i1 : ¬ ((xs.length : Int) < (xs.length : Int)) := by omega
      have HO1 := hid ho
      have b1 : ys.length + 3 ≤ maxLen := by unfold maxLen; omega
      have b2 : (ys.length + 3) * 8 ≤ 140737488355328 := by omega
      have b3 : base ≤ wr.heap.size := Nat.le_trans hb hkp.size
      have B1 := hid b1; have B2 := hid b2
      have HY := hid hys
      clear ho b1 b2 hys
      go_wp2_with (at_builtin; go_must (refine app_lit elInt rfl (.tmp 12) (.tmp 13) rfl HO1.out rfl _ _ 3 3 rfl rfl (by intro u hu; simp at hu; rcases hu with rfl | rfl | rfl <;> rfl) B1.out B2.out b3 ?_); intro v2 w2 hown2 hg2 hm2 hn2 hb2; have hcell : ∃ g2 c2, v2 = .slice (some ⟨g2, 0, none⟩) (ys.length + 3) c2 ∧ base ≤ g2 ∧ ys.length + 3 ≤ c2 ∧ w2.cell? ⟨g2, 0, none⟩ = some (cellD w2 g2 0) ∧ w2.frozen? ⟨g2, 0, none⟩ = false := row_head hown2; obtain ⟨g2, c2, rfl, hbg2, hn2c, hc2, hf2⟩ := hcell)
      have hend : Below base w (w2.setCell ⟨g2, 0, none⟩ (.int .i64 (-98))) := ((hkp.trans hb2).setCell hbg2 _)
      go_end0
      exact ⟨rfl, hend⟩

/-! ### stayed: the row holds what it held, and the marks -/
theorem room_cell {w : World} {g : Nat} {xs : List Int} (h : RoomAt w g xs) (j : Nat) : w.cell? ⟨g, j, none⟩ = ((xs ++ [-4711, -4712]).map intV)[j]? := by
  unfold RoomAt at h
  simp [World.cell?, h]
set_option maxRecDepth 20000 in
set_option maxHeartbeats 1000000 in
theorem stayed_any (g : Nat) (lv : Value) (xs : List Int) (w : World) (h : RoomAt w g xs) (hr : RdInts w lv xs) : Calls Try.prog 13 #[.slice (some ⟨g, 0, none⟩) xs.length (xs.length + 2), lv] w fun e w' => e = .returned (.bool true) ∧ Kp w w' := by
  have HC := hid (room_cell h)
  obtain ⟨hl, _, A, c, rfl, hc, hcell⟩ := hr
  have H2 := hid hcell
  have hm1 : w.cell? ⟨g, xs.length, none⟩ = some (.int .i64 (-4711)) := by
    rw [HC.out, List.map_append, List.getElem?_append_right (by simp)]; simp [intV]
  have hm2 : w.cell? ⟨g, xs.length + 1, none⟩ = some (.int .i64 (-4712)) := by
    rw [HC.out, List.map_append, List.getElem?_append_right (by simp)]; simp [intV]
  clear hcell h
  go_enter Try.func13, Try.ntmps13
  go_wp2
  go_loopw [5] (fun i wr => ∃ k n : Nat, k ≤ xs.length ∧ i = .int .i64 k ∧ wr = w.drewN n) (fun i _ => xs.length - (intOf i).toNat)
  case atStart => exact ⟨0, 0, by omega, rfl, rfl⟩
  case round =>
    obtain ⟨k, n, hk, rfl, rfl⟩ := hrel
    by_cases hlt : k < xs.length
    · obtain ⟨b, off, rfl, hb, hcA⟩ := H2.out (by omega)
      have hc1 := hcA k hlt
      have hc2 : w.cell? ⟨g, k, none⟩ = some (intV (xs.getD k 0)) := by
        rw [HC.out, List.map_append, List.getElem?_append_left (by simp; omega)]; simp [List.getD, List.getElem?_eq_getElem hlt]
      obtain ⟨x, hx⟩ : ∃ x, xs.getD k 0 = x := ⟨_, rfl⟩
      rw [hx] at hc1 hc2
      unfold intV at hc1 hc2
      have i1 : (k : Int) < (xs.length : Int) := by omega
      clear hx hcA
      go_wp2
      go_quiet (fail)
      go_wp2
      go_roundw
      case rel => exact ⟨k + 1, _, by omega, by simp, rfl⟩
      case measure => simp [intOf]; omega
    · obtain rfl : k = xs.length := by omega
      have i1 : ¬ ((xs.length : Int) < (xs.length : Int)) := by omega
      go_wp2
      go_ret
      exact ⟨rfl, (Kp.refl w).drewN n⟩
end Go.Proofs.Ytiicdknmoakocaa
