/-
  The law PanicsMemory: what Step answers is memory of its own, and what stands while that is written over. No condition.
-/
import Derived.Test.YtiicdknmoakocaaPanL
import Derived.Test.YtiicdknmoakocaaPanRs
import Derived.Test.YtiicdknmoakocaaPanNn
import Derived.Test.YtiicdknmoakocaaSc
namespace Go.Proofs.Ytiicdknmoakocaa
open Go.RowKit
set_option linter.unusedVariables false
set_option linter.unusedSimpArgs false

/-- The rows of an answer: activations with rows of their own, and panics. -/
def StT (w : World) (base : Nat) (fv pv : Value) (L : List (FrameM × Value)) (np : Nat) : Prop := (w.ownsRow base 44 5 fv L.length (flatF L) ∧ ∀ x ∈ L, OwnI w base x.2 x.1.defers ∧ x.1.defers.length ≤ 1000000 ∧ 0 ≤ x.1.id) ∧ ∃ xs, w.ownsRow base 46 7 pv np xs
theorem stT_of {w : World} {base : Nat} {fv pv : Value} {S : PlM} (h : StOwn w base fv pv S) (hn : NN S) : ∃ L np, StT w base fv pv L np := by
  obtain ⟨⟨L, h1, h2, h3, h4, h5⟩, ⟨xs, h6, _⟩, _⟩ := h
  have hl : L.length = S.fr.length := by
    have := congrArg List.length h2
    rw [List.length_map] at this
    rw [this]; simp
  refine ⟨L, _, ⟨h1, fun x hx => ?_⟩, xs, h6⟩
  have hm : x.1 ∈ S.fr := by
    have h7 : x.1 ∈ L.map Prod.fst := List.mem_map_of_mem hx
    rw [h2] at h7
    exact List.mem_reverse.1 h7
  exact ⟨h3 x hx, (h4 x.1 hm).2.2.2.2.2, hn.1 x.1 hm⟩
theorem stT_nil (w : World) (base : Nat) : StT w base (.slice none 0 0) (.slice none 0 0) [] 0 := ⟨⟨World.ownsRow_nil _ _ _ _, fun x hx => by cases hx⟩, [], World.ownsRow_nil _ _ _ _⟩
theorem StT.kp {w w' : World} {base : Nat} {fv pv : Value} {L : List (FrameM × Value)} {np : Nat} (h : StT w base fv pv L np) (hk : Kp w w') : StT w' base fv pv L np := by
  obtain ⟨⟨h1, h2⟩, xs, h3⟩ := h
  exact ⟨⟨ownsRow_keep h1 hk, fun x hx => ⟨ownsRow_keep (h2 x hx).1 hk, (h2 x hx).2⟩⟩, xs, ownsRow_keep h3 hk⟩
def StepT (w : World) (e' : Ending) (w' : World) : Prop := (∃ fv pv a b c d tv er L np, e' = .returned (.tuple #[.agg #[fv, pv, .int .i64 a, .int .i64 b, .int .i64 c, .int .i64 d], tv, .int .i64 er]) ∧ StT w' w.heap.size fv pv L np) ∧ Kp w w'
theorem step_t (w : World) (vs ve : Value) (S : PlM) (e : EventM) (hs : RdState w vs (mOf S)) (ho : OkSt (mOf S)) (hv : RdEvent w ve e) (he : okEv e) (hG : Good S) (hg : Gr 400 S) (nt : S.told = []) : Calls Try.prog 11 #[vs, ve] w (StepT w) := by
  rcases hG with hR | hO
  · have e1 : stM (mOf S) = S := by rw [stM_mOf]; unfold noTold; cases S; dsimp only at nt; subst nt; rfl
    have hc := step_any w vs ve (mOf S) e hs ho hv he (by rw [e1]; exact hR) (bdS_of hg (by omega))
    rw [e1] at hc
    refine hc.mono ?_
    rintro e' w' ⟨⟨fv, pv, tv, rfl, h1, _⟩, hk⟩
    obtain ⟨L, np, h2⟩ := stT_of h1 (event_nn (runs_nn hR hg.n0) e)
    exact ⟨⟨fv, pv, _, _, _, _, tv, _, L, np, rfl, h2⟩, hk⟩
  · refine (step_over w vs ve (mOf S) e hs hv hO.en0).mono ?_
    rintro e' w' ⟨rfl, hk⟩
    exact ⟨⟨_, _, _, _, _, _, _, _, [], 0, rfl, stT_nil _ _⟩, hk⟩
/-! ### what stands while the first answer is written over -/
theorem row_lt {w : World} {base size n : Nat} {e : TypeId} {v : Value} {xs : List Value} (h : w.ownsRow base e size v n xs) : ∀ g, v.ownBlock = some g → base ≤ g ∧ g < w.heap.size := fun g hg => World.ownsRow.lt h g hg
theorem own_high {lo hi base size n : Nat} {e : TypeId} {v : Value} {xs : List Value} {w w' : World} (h : Sc lo hi w w') (ho : w.ownsRow base e size v n xs) (hb : hi ≤ base) : w'.ownsRow base e size v n xs := by
  obtain ⟨h1, h2⟩ := ho
  refine ⟨h1, ?_⟩
  rcases h2 with h2 | ⟨g, cap, cur, hv, hbb, hgg, r⟩
  · exact .inl h2
  · exact .inr ⟨g, cap, cur, hv, hbb, (h.high g (by omega) (blk_lt hgg)).trans hgg, r⟩
theorem box_high {lo hi b : Nat} {fv pv : Value} {m : StateM} {w w' : World} (h : Sc lo hi w w') (ho : StBox w b fv pv m) (hb : hi ≤ b) : StBox w' b fv pv m := (h.high b hb (blk_lt ho)).trans ho
structure TL (W wr : World) (B1 B2 b10 : Nat) (ft pt : Value) (mt : StateM) (L : List (FrameM × Value)) (np : Nat) : Prop where
  sc : Sc B1 B2 W wr
  bx : StBox wr b10 ft pt mt
  fr : ∃ xs, wr.ownsRow B1 44 5 ft L.length xs ∧ ∀ (j : Nat) x, L[j]? = some x → xs[j * 5 + 4]? = some x.2
  pn : ∃ xs, wr.ownsRow B1 46 7 pt np xs
theorem TL.start {W : World} {B1 B2 b10 : Nat} {ft pt : Value} {mt : StateM} {L : List (FrameM × Value)} {np : Nat} (hb : StBox W b10 ft pt mt) (h : StT W B1 ft pt L np) : TL W W B1 B2 b10 ft pt mt L np :=
  ⟨Sc.refl _ _ _, hb, ⟨_, h.1.1, fun j x hx => by
    obtain ⟨hj, hx2⟩ := List.getElem?_eq_some_iff.1 hx
    have e : L = L.take j ++ x :: L.drop (j + 1) := by rw [← hx2, List.getElem_cons_drop, List.take_append_drop]
    have hl : (L.take j).length = j := by rw [List.length_take]; omega
    have h1 := flatF_at (L.take j) (L.drop (j + 1)) x 4 (by omega)
    rw [← e, hl] at h1
    exact h1⟩, h.2⟩
/-- A number written into a row of activations. -/
theorem TL.setF {W wr : World} {B1 B2 b10 g c k : Nat} {pt : Value} {mt : StateM} {L : List (FrameM × Value)} {np : Nat} (h : TL W wr B1 B2 b10 (.slice (some ⟨g, 0, none⟩) L.length c) pt mt L np) (hk : k < L.length) (h1 : B1 ≤ g) (h2 : g < B2) (u : Value) : TL W (wr.setCell ⟨g, k * 5, none⟩ u) B1 B2 b10 (.slice (some ⟨g, 0, none⟩) L.length c) pt mt L np := by
  obtain ⟨xs, hx, hx2⟩ := h.fr
  obtain ⟨cs, fr, hb⟩ := rowBlk hx
  have ht := rowTouch (o := k * 5) hb u
  obtain ⟨ys, hy⟩ := h.pn
  refine ⟨h.sc.setCell h1 (.inl h2) u (.inr fun cs' e => ?_), h.bx.touch ht (by decide), ⟨xs.set (k * 5) u, rowSet hx (by omega) u, fun j x hj => ?_⟩, ⟨ys, ownsRow_touch (by decide) hy ht⟩⟩
  · rw [hb] at e; injection e with e; injection e with _ e _; exact absurd e (by decide)
  · rw [List.getElem?_set_ne (by omega)]; exact hx2 j x hj
theorem TL.setP {W wr : World} {B1 B2 b10 g c k np : Nat} {ft : Value} {mt : StateM} {L : List (FrameM × Value)} (h : TL W wr B1 B2 b10 ft (.slice (some ⟨g, 0, none⟩) np c) mt L np) (hk : k < np) (h1 : B1 ≤ g) (h2 : g < B2) (u : Value) : TL W (wr.setCell ⟨g, k * 7, none⟩ u) B1 B2 b10 ft (.slice (some ⟨g, 0, none⟩) np c) mt L np := by
  obtain ⟨xs, hx⟩ := h.pn
  obtain ⟨cs, fr, hb⟩ := rowBlk hx
  have ht := rowTouch (o := k * 7) hb u
  obtain ⟨ys, hy, hy2⟩ := h.fr
  refine ⟨h.sc.setCell h1 (.inl h2) u (.inr fun cs' e => ?_), h.bx.touch ht (by decide), ⟨ys, ownsRow_touch (by decide) hy ht, hy2⟩, ⟨xs.set (k * 7) u, rowSet hx (by omega) u⟩⟩
  rw [hb] at e; injection e with e; injection e with _ e _; exact absurd e (by decide)
theorem TL.scrib {W wr w' : World} {B1 B2 b10 : Nat} {ft pt : Value} {mt : StateM} {L : List (FrameM × Value)} {np : Nat} (h : TL W wr B1 B2 b10 ft pt mt L np) (hs : Sc B1 B2 wr w') (ht : Touch 3 wr w') (hB2 : B2 ≤ W.heap.size) : TL W w' B1 B2 b10 ft pt mt L np := by
  obtain ⟨xs, hx, hx2⟩ := h.fr
  obtain ⟨ys, hy⟩ := h.pn
  exact ⟨h.sc.trans hs, h.bx.touch ht (by decide), ⟨xs, ownsRow_touch (by decide) hx ht, hx2⟩, ⟨ys, ownsRow_touch (by decide) hy ht⟩⟩
theorem TL.cellF {W wr : World} {B1 B2 b10 g c k : Nat} {pt : Value} {mt : StateM} {L : List (FrameM × Value)} {np : Nat} {x : FrameM × Value} (h : TL W wr B1 B2 b10 (.slice (some ⟨g, 0, none⟩) L.length c) pt mt L np) (hk : L[k]? = some x) : wr.cell? ⟨g, k * 5 + 4, none⟩ = some x.2 ∧ ∃ u, wr.cell? ⟨g, k * 5, none⟩ = some u ∧ wr.frozen? ⟨g, k * 5, none⟩ = false := by
  have hl := (List.getElem?_eq_some_iff.1 hk).1
  obtain ⟨xs, hx, hx2⟩ := h.fr
  obtain ⟨a1, _⟩ := rowAt hx (show k * 5 + 4 < L.length * 5 by omega)
  obtain ⟨b1, b2⟩ := rowAt hx (show k * 5 < L.length * 5 by omega)
  have hxl : xs.length = L.length * 5 := hx.1
  exact ⟨a1.trans (hx2 k x hk), xs[k * 5], by rw [b1, List.getElem?_eq_getElem (by omega)], b2⟩
theorem TL.cellP {W wr : World} {B1 B2 b10 g c k np : Nat} {ft : Value} {mt : StateM} {L : List (FrameM × Value)} (h : TL W wr B1 B2 b10 ft (.slice (some ⟨g, 0, none⟩) np c) mt L np) (hk : k < np) : ∃ u, wr.cell? ⟨g, k * 7, none⟩ = some u ∧ wr.frozen? ⟨g, k * 7, none⟩ = false := by
  obtain ⟨xs, hx⟩ := h.pn
  obtain ⟨b1, b2⟩ := rowAt hx (show k * 7 < np * 7 by omega)
  have hxl : xs.length = np * 7 := hx.1
  exact ⟨xs[k * 7], by rw [b1, List.getElem?_eq_getElem (by omega)], b2⟩
end Go.Proofs.Ytiicdknmoakocaa
