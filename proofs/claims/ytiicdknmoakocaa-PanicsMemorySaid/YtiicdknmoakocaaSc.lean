/-
  scribble: what it leaves: blocks below lo and those from hi on are as they were, rows of numbers stay rows of numbers. Condition: what comes in lies within the reach.
-/
import Derived.Test.YtiicdknmoakocaaRoomy
import Derived.Test.YtiicdknmoakocaaRow
namespace Go.Proofs.Ytiicdknmoakocaa
open Go.RowKit
set_option linter.unusedVariables false

def IntAt (cs cs' : Array Value) : Prop := cs'.size = cs.size ∧ ∀ (j : Nat) (x : Int), cs[j]? = some (intV x) → ∃ y, cs'[j]? = some (intV y)
theorem IntAt.refl (cs : Array Value) : IntAt cs cs := ⟨rfl, fun j x h => ⟨x, h⟩⟩
theorem IntAt.trans {a b c : Array Value} (h : IntAt a b) (k : IntAt b c) : IntAt a c := ⟨k.1.trans h.1, fun j x hx => by obtain ⟨y, hy⟩ := h.2 j x hx; exact k.2 j y hy⟩
structure Sc (lo hi : Nat) (w w' : World) : Prop where
  os : w'.os = w.os
  tape : w'.tape = w.tape
  output : w'.output = w.output
  size : w.heap.size ≤ w'.heap.size
  low : ∀ k, k < lo → w'.heap[k]? = w.heap[k]?
  high : ∀ k, hi ≤ k → k < w.heap.size → w'.heap[k]? = w.heap[k]?
  ints : ∀ (k : Nat) (cs : Array Value), w.heap[k]? = some (Obj.cells cs 3 (0, 0)) → ∃ cs' : Array Value, w'.heap[k]? = some (Obj.cells cs' 3 (0, 0)) ∧ IntAt cs cs'
theorem Sc.refl (lo hi : Nat) (w : World) : Sc lo hi w w := ⟨rfl, rfl, rfl, Nat.le_refl _, fun _ _ => rfl, fun _ _ _ => rfl, fun k cs h => ⟨cs, h, IntAt.refl _⟩⟩
theorem Sc.trans {lo hi : Nat} {a b c : World} (h : Sc lo hi a b) (k : Sc lo hi b c) : Sc lo hi a c :=
  ⟨k.os.trans h.os, k.tape.trans h.tape, k.output.trans h.output, Nat.le_trans h.size k.size, fun i hi => (k.low i hi).trans (h.low i hi), fun i h1 h2 => (k.high i h1 (Nat.lt_of_lt_of_le h2 h.size)).trans (h.high i h1 h2), fun i cs hc => by
    obtain ⟨c1, g1, g2⟩ := h.ints i cs hc
    obtain ⟨c2, g3, g4⟩ := k.ints i c1 g1
    exact ⟨c2, g3, g2.trans g4⟩⟩
theorem Sc.of_kp {lo hi : Nat} {w w' : World} (h : Kp w w') (hl : lo ≤ w.heap.size) : Sc lo hi w w' := ⟨h.os, h.tape, h.output, h.size, fun k hk => h.block k (by omega), fun k _ hk => h.block k hk, fun k cs hc => ⟨cs, (h.block k (blk_lt hc)).trans hc, IntAt.refl _⟩⟩
theorem Sc.below {lo hi : Nat} {w w' : World} (h : Sc lo hi w w') : Below lo w w' := ⟨h.os, h.tape, h.output, h.size, h.low⟩
theorem Sc.mono {lo lo' hi hi' : Nat} {w w' : World} (h : Sc lo hi w w') (h1 : lo' ≤ lo) (h2 : hi ≤ hi') : Sc lo' hi' w w' := ⟨h.os, h.tape, h.output, h.size, fun k hk => h.low k (by omega), fun k h3 h4 => h.high k (by omega) h4, h.ints⟩
/-- A cell written in a block that may be: of numbers, a number; of another type, whatever. -/
theorem Sc.setCell {lo hi g i : Nat} {w w' : World} (h : Sc lo hi w w') (h1 : lo ≤ g) (h2 : g < hi ∨ w.heap.size ≤ g) (v : Value) (hv : (∃ x, v = intV x) ∨ ∀ cs, w'.heap[g]? ≠ some (.cells cs 3 (0, 0))) : Sc lo hi w (w'.setCell ⟨g, i, none⟩ v) := by
  have e : ∀ k, k ≠ g → (w'.setCell ⟨g, i, none⟩ v).heap[k]? = w'.heap[k]? := fun k hk => blk_far (p := ⟨g, i, none⟩) hk v
  refine ⟨h.os, h.tape, h.output, by simpa [World.setCell] using h.size, fun k hk => ?_, fun k hk hs => ?_, fun k cs hc => ?_⟩
  · rw [e k (by omega)]; exact h.low k hk
  · rw [e k (by omega)]; exact h.high k hk hs
  · obtain ⟨c1, g1, g2⟩ := h.ints k cs hc
    by_cases hk : k = g
    · subst hk
      rcases hv with ⟨x, rfl⟩ | hv
      · refine ⟨_, blk_set g1 _, g2.trans ⟨by simp, fun j y hj => ?_⟩⟩
        by_cases hji : j = i
        · subst hji
          exact ⟨x, by rw [Array.getElem?_setIfInBounds_self_of_lt (by obtain ⟨h, _⟩ := Array.getElem?_eq_some_iff.1 hj; exact h)]⟩
        · exact ⟨y, by rw [Array.getElem?_setIfInBounds_ne (by omega)]; exact hj⟩
      · exact absurd g1 (hv c1)
    · exact ⟨c1, (e k hk).trans g1, g2⟩
/-- A row of numbers stays one. -/
theorem Sc.row {lo hi base : Nat} {w w' : World} {v : Value} {xs : List Int} (h : Sc lo hi w w') (ho : OwnI w base v xs) : ∃ ys, ys.length = xs.length ∧ OwnI w' base v ys := by
  obtain ⟨h1, h2⟩ := ho
  rcases h2 with ⟨rfl, h0⟩ | ⟨g, cap, cur, rfl, hb, hg, hnc, hm, hsz, htk⟩
  · exact ⟨xs, rfl, h1, .inl ⟨rfl, h0⟩⟩
  · obtain ⟨c1, g1, g2, g3⟩ := h.ints g cur hg
    have hex : ∀ j, j < xs.length → ∃ y, c1[j]? = some (intV y) := fun j hj => by
      refine g3 j (xs[j]) ?_
      have h3 : cur.toList[j]? = (xs.map intV)[j]? := by rw [← htk, List.getElem?_take, if_pos (by omega)]
      rw [Array.getElem?_toList] at h3
      rw [h3, List.getElem?_map, List.getElem?_eq_getElem hj]; rfl
    obtain ⟨ys, y1, y2⟩ := list_choice xs.length (fun j y => c1[j]? = some (intV y)) hex
    refine ⟨ys, y1, by simp [y1], .inr ⟨g, cap, c1, by rw [y1], hb, g1, by rw [y1]; exact hnc, hm, g2.trans hsz, ?_⟩⟩
    apply List.ext_getElem?
    intro j
    rw [List.getElem?_take, y1, Nat.mul_one]
    split
    · rename_i hj
      rw [Array.getElem?_toList, List.getElem?_map, List.getElem?_eq_getElem (by omega), y2 j _ (List.getElem?_eq_getElem (by omega))]; rfl
    · rename_i hj
      rw [List.getElem?_eq_none (by simp; omega)]
theorem Sc.setRow {lo hi g : Nat} {w : World} {cur cur' : Array Value} (hg : w.heap[g]? = some (.cells cur 3 (0, 0))) (h1 : lo ≤ g) (h2 : g < hi) (hc : IntAt cur cur') : Sc lo hi w (w.setRow g cur') := by
  have e : ∀ k, k ≠ g → (w.setRow g cur').heap[k]? = w.heap[k]? := fun k hk => setRow_other w g k _ hk
  refine ⟨rfl, rfl, rfl, by simp [World.setRow], fun k hk => e k (by omega), fun k hk hs => e k (by omega), fun k cs hc' => ?_⟩
  by_cases hk : k = g
  · subst hk
    rw [hg] at hc'
    injection hc' with hc'
    injection hc' with hc'
    subst hc'
    exact ⟨cur', setRow_heap w _ _ _ _ _ hg, hc⟩
  · exact ⟨cs, (e k hk).trans hc', IntAt.refl _⟩
theorem touch_setRow {g : Nat} {w : World} {cur cur' : Array Value} {e : TypeId} {fr : Nat × Nat} (hg : w.heap[g]? = some (.cells cur e fr)) : Touch e w (w.setRow g cur') := by
  refine ⟨by simp [World.setRow], fun k o h1 h2 => ?_⟩
  by_cases hk : k = g
  · subst hk
    rw [hg] at h1
    exact absurd (Option.some.inj h1).symm (h2 cur fr)
  · rw [setRow_other w g k _ hk]; exact h1
/-- What the append of numbers leaves. -/
theorem run_app_sc {P : Program} {t : TypeId} {z : Value} {bytes : Nat} (E : El P t 3 z 1 bytes) (ty : TypeId) {w0 : World} {lo hi : Nat} {v : Value} {xs : List Int} (hown : OwnI w0 lo v xs) (news : List Int) (ad : Addr) (c : Nat)
    (hcell : ∀ j u, (news.map intV)[j]? = some u → w0.cell? (ad.add j) = some u) (hn : 0 < news.length) (h63 : xs.length + news.length ≤ maxLen) (hbytes : (xs.length + news.length) * bytes ≤ 140737488355328) (hlo : lo ≤ w0.heap.size) (hhi : ∀ g, v.ownBlock = some g → g < hi) :
    ∃ v' w', (Builtin.append_ #[t, t] ty #[v, .slice (some ad) news.length c]).run P w0 = .ok v' w' ∧ OwnI w' lo v' (xs ++ news) ∧ (∀ g, v'.ownBlock = some g → g < hi ∨ w0.heap.size ≤ g) ∧ Sc lo hi w0 w' ∧ Touch 3 w0 w' := by
  obtain ⟨i, ht, hi', hz, hsz, hby, hzs, h0⟩ := E
  have hown' := hown
  obtain ⟨hl1, hown2⟩ := hown
  obtain ⟨v', w', g1, g2, g3, _, g4⟩ := run_append_own_at (P := P) w0 lo t ty 3 i z 1 bytes ht hi' hz hsz hby hzs h0 v xs.length (xs.map intV) hown' ad news.length c (news.map intV) (by simp) hcell (oneInt _) h63 hbytes hlo
  have hO : OwnI w' lo v' (xs ++ news) := by unfold OwnI; rw [List.map_append, List.length_append]; exact g2
  refine ⟨v', w', g1, hO, ?_, ?_⟩
  · intro g hg
    rcases g4 with g4 | g4
    · exact .inl (hhi g (g4.symm.trans hg))
    · rw [g4] at hg; injection hg with hg; right; omega
  · have hT := Touch.of_grown hown' g3
    refine ⟨?_, hT⟩
    rcases hown2 with ⟨rfl, h00⟩ | ⟨g, cap, cur, rfl, hbg, hg, hnc, hcm, hcs, htake⟩
    · exact Sc.of_kp ⟨g3.os, g3.tape, g3.output, g3.size, fun k hk => g3.block k hk (by simp [Value.ownBlock])⟩ hlo
    · rw [Nat.mul_one] at hcs htake
      by_cases hroom : xs.length + news.length ≤ cap
      · have hr := run_append_room (P := P) w0 t ty 3 i ht hi' g xs.length cap cur hg ad news.length c (news.map intV) (by rw [hsz]; simp) hcell (oneInt _) hroom (by rw [hsz, List.length_map, hcs]; omega)
        rw [g1] at hr
        injection hr with _ hr
        subst hr
        refine Sc.setRow hg hbg (hhi g rfl) ?_
        rw [hsz, Nat.mul_one, List.length_map]
        refine ⟨by simp; omega, fun j x hj => ?_⟩
        rw [List.getElem?_toArray]
        have hjs : j < cur.size := (Array.getElem?_eq_some_iff.1 hj).1
        have ht : (cur.toList.take xs.length).length = xs.length := by simp; omega
        by_cases h1 : j < xs.length
        · refine ⟨x, ?_⟩
          rw [List.append_assoc, List.getElem?_append_left (by omega), List.getElem?_take, if_pos h1, Array.getElem?_toList]; exact hj
        · by_cases h2 : j < xs.length + news.length
          · refine ⟨news[j - xs.length], ?_⟩
            rw [List.getElem?_append_left (by simp; omega), List.getElem?_append_right (by omega), ht, List.getElem?_map, List.getElem?_eq_getElem (by omega)]; rfl
          · refine ⟨x, ?_⟩
            rw [List.getElem?_append_right (by simp; omega), List.length_append, ht, List.length_map, List.getElem?_drop, Array.getElem?_toList, show xs.length + news.length + (j - (xs.length + news.length)) = j by omega]; exact hj
      · have holds : ∀ j u, (xs.map intV)[j]? = some u → w0.cell? ((⟨g, 0, none⟩ : Addr).add j) = some u := hown'.cells (g := g) rfl
        have hr := run_append_grow (P := P) w0 t ty 3 i z ht hi' hz ⟨g, 0, none⟩ xs.length cap (xs.map intV) (by rw [hsz]; simp) holds ad news.length c (news.map intV) (by rw [hsz]; simp) hcell (by omega) (by unfold maxLen at h63; omega) (growslice_fits (by omega) (by rw [hby]; exact hbytes))
        rw [g1] at hr
        injection hr with _ hr
        subst hr
        exact Sc.of_kp (((Kp.refl w0).drew).alloc _) hlo
/-- append(own numbers, a literal row): the literal lies in the block made last. -/
theorem app_sc {P : Program} {t : TypeId} {z : Value} {bytes : Nat} {w0 : World} {ops : Array Oper} {rest : List Oper} {o : Oper} {a : Act} {Q : Exit → Act → World → Prop} {lo hi : Nat} {v : Value} {xs : List Int} (E : El P t 3 z 1 bytes) (hgd : o.guard = none) (s x : Operand) (ho : o.op = .call { callee := .builtin .append, args := #[s, x], argTypes := #[t, t] })
    (hown : OwnI w0 lo v xs) (hs : a.eval s = v) (news : List Int) (cs : Array Value) (T : TypeId) (hcs : cs.toList = news.map intV) (c : Nat) (hx : a.eval x = .slice (some ⟨w0.heap.size, 0, none⟩) news.length c)
    (hn : 0 < news.length) (h63 : xs.length + news.length ≤ maxLen) (hbytes : (xs.length + news.length) * bytes ≤ 140737488355328) (hbase : lo ≤ w0.heap.size) (hhi : ∀ g, v.ownBlock = some g → g < hi)
    (h : ∀ v' w', OwnI w' lo v' (xs ++ news) → (∀ g, v'.ownBlock = some g → g < hi ∨ w0.heap.size ≤ g) → Sc lo hi w0 w' → Touch 3 w0 w' → wpList P ops Q rest (a.put o.dst v') w') :
    wpList P ops Q (o :: rest) a (w0.alloc (.cells cs T)) := by
  have hk : Kp w0 (w0.alloc (.cells cs T)) := (Kp.refl _).alloc _
  obtain ⟨v', w', hrun, g1, g2, g3, g4⟩ := run_app_sc (w0 := w0.alloc (.cells cs T)) (hi := hi) E o.type (ownsRow_keep hown hk) news ⟨w0.heap.size, 0, none⟩ c (fun j u hj => by rw [cell_of_alloc]; rw [← Array.getElem?_toList, hcs]; exact hj) hn h63 hbytes (by simp; omega) hhi
  refine wpList_plain hgd fun K hK => ?_
  unfold Oper.wp execOp
  simp only [ho, resolve, invoke, builtin, Sem.run_bind, Sem.run_pure, Result.andThen_ok, List.map_toArray, List.map_cons, List.map_nil, hs, hx, hrun]
  refine hK _ _ (h v' w' g1 (fun g hg => ?_) ((Sc.of_kp hk hbase).trans g3) ((Touch.of_kp hk).trans g4))
  rcases g2 g hg with h1 | h1
  · exact .inl h1
  · right; simp at h1; omega
theorem row_head_sc {w : World} {lo n : Nat} {v : Value} {xs : List Int} (h : OwnI w lo v xs) (hn : 0 < xs.length) (hl : xs.length = n) : ∃ g c cur, v = .slice (some ⟨g, 0, none⟩) n c ∧ lo ≤ g ∧ n ≤ c ∧ w.cell? ⟨g, 0, none⟩ = some (cellD w g 0) ∧ w.frozen? ⟨g, 0, none⟩ = false ∧ w.heap[g]? = some (.cells cur 3 (0, 0)) := by
  subst hl
  rcases h.2 with ⟨_, h2⟩ | ⟨g, cap, cur, hv, hb, hg, hnc, hm, hsz, _⟩
  · omega
  · obtain ⟨h1, h2⟩ := BoxAt.mk_ (w := w) (b := g) (o := 0) (v := cur[0]'(by omega)) (by simp [World.cell?, hg]) (by simp [World.frozen?, hg])
    exact ⟨g, cap, cur, hv, hb, hnc, h1, h2, hg⟩
set_option maxRecDepth 20000 in
set_option maxHeartbeats 1000000 in
theorem scribble_sc (v : Value) (xs : List Int) (w : World) (lo hi : Nat) (h : OwnI w lo v xs) (hl : (xs.length + 3) * 8 ≤ 140737488355328) (hb : lo ≤ w.heap.size) (hh : ∀ g, v.ownBlock = some g → g < hi) : Calls Try.prog 12 #[v] w fun e w' => e = .returned (.tuple #[]) ∧ Sc lo hi w w' ∧ Touch 3 w w' := by
  obtain ⟨A, c, rfl⟩ := own_form h
  have HO := hid h; have HH := hid hh
  clear h hh
  go_enter Try.func12, Try.ntmps12
  go_wp2
  go_loopw [2] (fun i wr => ∃ (k : Nat) (ys : List Int), k ≤ xs.length ∧ i = .int .i64 k ∧ ys.length = xs.length ∧ OwnI wr lo (.slice A xs.length c) ys ∧ Sc lo hi w wr ∧ Touch 3 w wr) (fun i _ => xs.length - (intOf i).toNat)
  case atStart => exact ⟨0, xs, by omega, rfl, rfl, HO.out, Sc.refl _ _ _, Touch.refl _ _⟩
  case round =>
    obtain ⟨k, ys, hk, rfl, hys, ho, hsc, htc⟩ := hrel
    by_cases hlt : k < xs.length
    · have i1 : (k : Int) < (xs.length : Int) := by omega
      have HO1 := hid ho
      rcases ho.2 with ⟨h2, _⟩ | ⟨g, cap, cur, hv, hbg, hg, hnc, hm, hsz, htk⟩
      · exfalso; injection h2 with _ h3 _; omega
      · injection hv with e1 e2 e3
        subst e1
        subst e3
        have hcl : wr.cell? ⟨g, k, none⟩ = some (intV (ys.getD k 0)) := by
          have h3 : cur.toList[k]? = (ys.map intV)[k]? := by rw [← htk, List.getElem?_take, if_pos (by omega)]
          rw [Array.getElem?_toList] at h3
          simp [World.cell?, hg, h3, List.getD, List.getElem?_eq_getElem (show k < ys.length by omega)]
        have hfr : wr.frozen? ⟨g, k, none⟩ = false := by simp [World.frozen?, hg]
        have HW : Hid (OwnI (wr.setCell ⟨g, k, none⟩ (.int .i64 (-99))) lo (.slice (some ⟨g, 0, none⟩) xs.length c) (ys.set k (-99))) := hid (by
          have h4 := HO1.out
          rw [← hys] at h4
          have := own_set h4 (show k < ys.length by omega) (-99)
          rw [List.length_set, hys] at this
          exact this)
        have HK : Hid (Sc lo hi w (wr.setCell ⟨g, k, none⟩ (.int .i64 (-99)))) := hid (hsc.setCell hbg (.inl (HH.out g rfl)) _ (.inl ⟨_, rfl⟩))
        have HT : Hid (Touch 3 w (wr.setCell ⟨g, k, none⟩ (.int .i64 (-99)))) := hid (htc.trans (rowTouch hg _))
        clear hg hm hsz htk hnc e2 HO1 ho hsc htc
        go_wp2
        go_roundw
        case rel => exact ⟨k + 1, _, by omega, by simp, by rw [List.length_set]; exact hys, HW.out, HK.out, HT.out⟩
        case measure => simp [intOf]; omega
    · obtain rfl : k = xs.length := by omega
      have i1 : ¬ ((xs.length : Int) < (xs.length : Int)) := by omega
      have HO1 := hid ho
      have B1 := hid (show ys.length + [(-99 : Int), -99, -99].length ≤ maxLen by show ys.length + 3 ≤ maxLen; unfold maxLen; omega)
      have B2 := hid (show (ys.length + [(-99 : Int), -99, -99].length) * 8 ≤ 140737488355328 by show (ys.length + 3) * 8 ≤ _; omega)
      have b3 : lo ≤ wr.heap.size := Nat.le_trans hb hsc.size
      have HY := hid hys; have HS := hid hsc; have HT := hid htc
      clear ho hys hsc htc
      go_wp2_with (at_builtin; go_must (refine app_sc (hi := hi) elInt rfl (.tmp 12) (.tmp 13) rfl HO1.out rfl [-99, -99, -99] _ _ rfl 3 rfl (by decide) B1.out B2.out b3 HH.out ?_); intro v2 w2 hown2 hg2 hs2 ht2; obtain ⟨g2, c2, cur2, rfl, hbg2, hn2c, hc2, hf2, hq2⟩ := row_head_sc hown2 (by simp) rfl; have HQ2 := hid hq2; have HG2 := hid hg2; have HS2 := hid (HS.out.trans hs2); have HT2 := hid (HT.out.trans ht2); clear hown2 hq2 hg2 hs2 ht2)
      have hend : Sc lo hi w (w2.setCell ⟨g2, 0, none⟩ (.int .i64 (-98))) := HS2.out.setCell hbg2 ((HG2.out g2 rfl).imp id (fun h => Nat.le_trans HS.out.size h)) _ (.inl ⟨_, rfl⟩)
      have hend2 : Touch 3 w (w2.setCell ⟨g2, 0, none⟩ (.int .i64 (-98))) := HT2.out.trans (rowTouch HQ2.out _)
      go_end0
      exact ⟨rfl, hend, hend2⟩
end Go.Proofs.Ytiicdknmoakocaa
