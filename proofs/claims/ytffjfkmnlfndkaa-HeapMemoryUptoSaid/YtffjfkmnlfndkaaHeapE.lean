/-
  The heap laws' sameBlock, on blocks that are the same. No condition.
-/
import Derived.Test.YtffjfkmnlfndkaaHeapT
import Derived.Laws.OwnMore
namespace Go.Proofs.Ytffjfkmnlfndkaa
open Go.RowKit
set_option linter.unusedVariables false

theorem ne_cell (a b : Int) (w : World) : (binOp .neq 24 (.agg #[.int .i64 a, .int .i64 b]) (.agg #[.int .i64 a, .int .i64 b])).run Try.prog w = .ok (.bool false) w := by simp [go_sem]
set_option maxRecDepth 20000 in
set_option maxHeartbeats 2000000 in
theorem same_block (w : World) (p s : Int) (la lb : Value) (cs : List CellM) (ha : RdCells w la cs) (hb : RdCells w lb cs) (hl : cs.length ≤ 1000000) : Calls Try.prog 21 #[.agg #[.int .i64 p, .int .i64 s, la], .agg #[.int .i64 p, .int .i64 s, lb]] w fun e w' => e = .returned (.bool true) ∧ Kp w w' := by
  obtain ⟨A, c1, rfl, hc1⟩ := RdL.form ha
  obtain ⟨B, c2, rfl, hc2⟩ := RdL.form hb
  have HA := hid ha; have HB := hid hb
  clear ha hb
  have bp : (p != p) = false := by simp
  have bs : (s != s) = false := by simp
  have hne := ne_cell
  go_enter Try.func21, Try.ntmps21
  go_wp2
  go_loopw [5] (fun i wr => ∃ k : Nat, k ≤ cs.length ∧ i = .int .i64 k ∧ Kp w wr ∧ w.heap.size + 2 ≤ wr.heap.size ∧ wr.cell? ⟨w.heap.size, 2, none⟩ = some (.slice A cs.length c1) ∧ wr.cell? ⟨w.heap.size + 1, 2, none⟩ = some (.slice B cs.length c2)) (fun i _ => cs.length - lenI i)
  case atStart => exact ⟨0, by omega, rfl, ((Kp.refl _).alloc _).alloc _, by simp, blk_cell (blk_old (blk_new w _) _) rfl, blk_cell (by have := blk_new (w.alloc (.cells #[.int .i64 p, .int .i64 s, .slice A cs.length c1] 40)) (.cells #[.int .i64 p, .int .i64 s, .slice B cs.length c2] 40); simpa using this) rfl⟩
  case round =>
    obtain ⟨k, hk, rfl, hkp, hsz, x1, x2⟩ := hrel
    have HK := hid hkp
    clear hkp
    by_cases hlt : k < cs.length
    · have i1 : (k : Int) < (cs.length : Int) := by omega
      have j0 : (0 : Int) ≤ (k : Int) := by omega
      obtain ⟨m, hm⟩ : ∃ m, cs[k]? = some m := ⟨_, List.getElem?_eq_getElem hlt⟩
      obtain ⟨b1, o1, rfl, hb1, p0, p1⟩ := rd_cell (HA.out.kp CeC.kp HK.out) hm
      obtain ⟨b2, o2, rfl, hb2, p2, p3⟩ := rd_cell (HB.out.kp CeC.kp HK.out) hm
      clear hm
      go_wp2
      go_quiet (fail)
      go_wp2
      go_roundw
      case rel => exact ⟨k + 1, by omega, rfl, HK.out.drewN nq, hsz, x1, x2⟩
      case measure => simp only [lenI]; omega
    · obtain rfl : k = cs.length := by omega
      have i1 : ¬ (cs.length : Int) < (cs.length : Int) := by omega
      go_wp2
      go_ret
      exact ⟨rfl, HK.out⟩
/-- .. and the rows of cells lie below top. -/
def OBlksT (w : World) (base top : Nat) (v : Value) (l : List BlockM) : Prop := ∃ xs, w.ownsRow base 40 3 v l.length xs ∧ Chunk (CeB base) 3 w xs l ∧ ApartX xs ∧ ∀ j a g, xs[j * 3 + 2]? = some a → a.ownBlock = some g → g < top
theorem OBlksA.top {w : World} {base : Nat} {v : Value} {l : List BlockM} (h : OBlksA w base v l) : OBlksT w base w.heap.size v l := by
  obtain ⟨xs, h1, h2, h3⟩ := h
  refine ⟨xs, h1, h2, h3, fun j a g ha hg => ?_⟩
  obtain ⟨b, _, ys, ho, _⟩ := chunk_la h2 ha
  exact (ho.lt g hg).2
theorem OBlksT.base {w : World} {b B top : Nat} {v : Value} {l : List BlockM} (h : OBlksT w B top v l) (hb : b ≤ B) : OBlksT w b top v l := by
  obtain ⟨xs, h1, h2, h3, h4⟩ := h
  exact ⟨xs, own_base hb h1, Chunk.mono (w := w) (w' := w) (fun _ _ ⟨la, k1, k2⟩ => ⟨la, k1, k2.base hb⟩) h2, h3, h4⟩
theorem OBlksT.kp {w w' : World} {base top : Nat} {v : Value} {l : List BlockM} (h : OBlksT w base top v l) (hk : Kp w w') : OBlksT w' base top v l := by
  obtain ⟨xs, h1, h2, h3, h4⟩ := h
  exact ⟨xs, ownsRow_keep h1 hk, h2.kp CeB.kp hk, h3, h4⟩
theorem OBlksT.hx {lo hi top : Nat} {w w' : World} {v : Value} {l : List BlockM} (h : OBlksT w hi top v l) (hk : Hx lo hi w w') : OBlksT w' hi top v l := by
  obtain ⟨xs, h1, h2, h3, h4⟩ := h
  exact ⟨xs, ownsRow_hx h1 hk, Chunk.mono (w := w) (w' := w') (fun _ _ ⟨la, g1, g2⟩ => ⟨la, g1, g2.hx hk⟩) h2, h3, h4⟩
theorem touch_set {w : World} {g o : Nat} {xs : Array Value} {e : TypeId} {fr : Nat × Nat} (h : w.heap[g]? = some (.cells xs e fr)) (v : Value) : Touch e w (w.setCell ⟨g, o, none⟩ v) := by
  refine ⟨by simp [World.setCell], fun k ob hk hne => ?_⟩
  by_cases e' : k = g
  · subst e'; rw [h] at hk; cases hk; exact absurd rfl (hne xs fr)
  · rw [set_other _ e']; exact hk
/-- A row of cells in another block than the one that is written. -/
theorem OCells.far {w : World} {base n c g o : Nat} {A : Option Addr} {cs : List CellM} (h : OCells w base (.slice A n c) cs) (hne : ∀ g', (Value.slice A n c).ownBlock = some g' → g' ≠ g) (v : Value) : OCells (w.setCell ⟨g, o, none⟩ v) base (.slice A n c) cs := by
  obtain ⟨xs, ⟨h1, h2⟩, h3⟩ := h
  refine ⟨xs, ⟨h1, ?_⟩, Chunk.mono (w := w) (w' := w.setCell ⟨g, o, none⟩ v) (fun _ _ h => h) h3⟩
  rcases h2 with h2 | ⟨g', cap, cur, hv, hb, hgg, r⟩
  · exact .inl h2
  · refine .inr ⟨g', cap, cur, hv, hb, ?_, r⟩
    rw [set_other _ (hne g' (by rw [hv]; rfl))]; exact hgg
theorem row_cell {w : World} {base : Nat} {e : TypeId} {size n : Nat} {v : Value} {xs : List Value} (h : w.ownsRow base e size v n xs) {j : Nat} {u : Value} (hj : xs[j]? = some u) : ∃ g c, v = .slice (some ⟨g, 0, none⟩) n c ∧ g < w.heap.size ∧ base ≤ g ∧ w.cell? ⟨g, j, none⟩ = some u ∧ n ≤ c ∧ w.frozen? ⟨g, j, none⟩ = false ∧ ∃ cs fr, w.heap[g]? = some (.cells cs e fr) := by
  obtain ⟨h1, h2⟩ := h
  rcases h2 with ⟨rfl, h0⟩ | ⟨g, cap, cur, rfl, hb, hg, hnc, hm, hsz, htk⟩
  · subst h0
    have : xs = [] := List.eq_nil_of_length_eq_zero (by simpa using h1)
    subst this; simp at hj
  · refine ⟨g, cap, rfl, (Array.getElem?_eq_some_iff.1 hg).1, hb, ?_, hnc, by simp [World.frozen?, hg], _, _, hg⟩
    have hlt : j < n * size := by
      rcases Nat.lt_or_ge j xs.length with h | h
      · omega
      · rw [List.getElem?_eq_none h] at hj; cases hj
    rw [← htk, List.getElem?_take, if_pos hlt, Array.getElem?_toList] at hj
    simp [World.cell?, hg, hj]
theorem OCells.own {w : World} {base : Nat} {A : Option Addr} {n c : Nat} {cs : List CellM} (h : OCells w base (.slice A n c) cs) (hp : 0 < cs.length) : ∃ g, A = some ⟨g, 0, none⟩ ∧ base ≤ g ∧ g < w.heap.size ∧ ∃ xs fr, w.heap[g]? = some (.cells xs 24 fr) := by
  obtain ⟨xs, h1, h2⟩ := h
  have hl := h2.len
  obtain ⟨g, c', e, hg, hb, _, _, _, hx⟩ := row_cell h1 (j := 0) (u := xs[0]'(by omega)) (List.getElem?_eq_getElem (by omega))
  injection e with e1
  exact ⟨g, e1, hb, hg, hx⟩
theorem OCells.set {w : World} {base n c g i : Nat} {cs : List CellM} (h : OCells w base (.slice (some ⟨g, 0, none⟩) n c) cs) (hi : i < cs.length) (m : CellM) : OCells ((w.setCell ⟨g, i * 2, none⟩ (.int .i64 m.tag)).setCell ⟨g, i * 2 + 1, none⟩ (.int .i64 m.n)) base (.slice (some ⟨g, 0, none⟩) n c) (cs.set i m) := by
  obtain ⟨A, c', e⟩ := h.form
  injection e with e1 e2 e3
  subst e2
  obtain ⟨xs, h1, h2⟩ := h
  have a1 := ((h1.stored (i * 2) (.int .i64 m.tag)).1.stored (i * 2 + 1) (.int .i64 m.n)).1
  have b1 := Chunk.set (w := w) 0 (by omega) (.int .i64 m.tag) (b := ⟨m.tag, (cs[i]).n⟩) h2 (List.getElem?_eq_getElem hi) (fun zs hz hl => by obtain rfl := hz; rfl)
  have b2 := Chunk.set (w := w) 1 (by omega) (.int .i64 m.n) (b := m) b1 (i := i) (a := ⟨m.tag, (cs[i]).n⟩) (by simp [hi]) (fun zs hz hl => by obtain rfl := hz; rfl)
  rw [List.set_set] at b2
  exact ⟨_, by rw [List.length_set]; exact a1, Chunk.mono (w := w) (w' := (w.setCell ⟨g, i * 2, none⟩ (.int .i64 m.tag)).setCell ⟨g, i * 2 + 1, none⟩ (.int .i64 m.n)) (fun _ _ h => h) b2⟩
end Go.Proofs.Ytffjfkmnlfndkaa
