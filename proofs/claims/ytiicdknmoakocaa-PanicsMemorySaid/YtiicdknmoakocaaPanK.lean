/-
  The laws' own played: the states that events come to, as rows of the call's own. Condition: at most 400 events, each of which may happen.
-/
import Derived.Test.YtiicdknmoakocaaPanX
import Derived.Test.YtiicdknmoakocaaPanZ
import Derived.Test.YtiicdknmoakocaaRegionP
namespace Go.Proofs.Ytiicdknmoakocaa
open Go.RowKit
set_option linter.unusedVariables false
set_option linter.unusedSimpArgs false

def mOf (S : PlM) : StateM := ⟨S.fr.reverse, S.pn.reverse, S.next, S.ser, S.en, S.stat⟩
theorem stM_mOf (S : PlM) : stM (mOf S) = noTold S := by unfold stM mOf noTold; simp
theorem StOwn.kp {w w' : World} {base : Nat} {fv pv : Value} {S : PlM} (h : StOwn w base fv pv S) (hk : Kp w w') : StOwn w' base fv pv S := ⟨h.1.kp hk, h.2.1.kp hk, h.2.2⟩
theorem StOwn.touch {w w' : World} {base : Nat} {fv pv : Value} {S : PlM} {T : TypeId} (h : StOwn w base fv pv S) (ht : Touch T w w') (n1 : 44 ≠ T) (n2 : 3 ≠ T) (n3 : 46 ≠ T) : StOwn w' base fv pv S := ⟨h.1.touch ht n1 n2, h.2.1.touch ht n3, h.2.2⟩
theorem StOwn.base {w : World} {b B : Nat} {fv pv : Value} {S : PlM} (h : StOwn w B fv pv S) (hb : b ≤ B) : StOwn w b fv pv S := ⟨h.1.base hb, OwnL.base_ hb h.2.1, h.2.2⟩
theorem StOwn.form {w : World} {base : Nat} {fv pv : Value} {S : PlM} (h : StOwn w base fv pv S) : ∃ A c B d, fv = .slice A S.fr.length c ∧ pv = .slice B S.pn.length d := by
  obtain ⟨A, c, e, _⟩ := h.1.len
  obtain ⟨B, d, e2, _⟩ := h.2.1.len
  exact ⟨A, c, B, d, e, e2⟩
theorem flat_chunk {w : World} {base : Nat} : ∀ {L : List (FrameM × Value)}, (∀ x ∈ L, OwnI w base x.2 x.1.defers) → (∀ x ∈ L, okF x.1) → Chunk CeFrame 5 w (flatF L) (L.map Prod.fst)
  | [], _, _ => rfl
  | x :: L, h, ho => by
    have h1 := h x (List.mem_cons_self ..)
    have h2 := ho x (List.mem_cons_self ..)
    refine ⟨frCells x.1 x.2, flatF L, rfl, rfl, ⟨x.2, rfl, h2.1, h2.2.1, h2.2.2.1, h2.2.2.2.1, OwnI.rd h1 (by have := h2.2.2.2.2.2; omega) h2.2.2.2.2.1, by have := h2.2.2.2.2.2; omega⟩, flat_chunk (fun y hy => h y (List.mem_cons_of_mem _ hy)) (fun y hy => ho y (List.mem_cons_of_mem _ hy))⟩
theorem FrRow.rd {w : World} {base : Nat} {v : Value} {F : List FrameM} (h : FrRow w base v F) : RdL CeFrame 5 w v F.reverse := by
  obtain ⟨L, h1, h2, h3, h4, h5⟩ := h
  have hl : L.length = F.reverse.length := by rw [← h2, List.length_map]
  refine OwnL.rd (e := 44) (base := base) ⟨flatF L, by rw [← hl]; exact h1, ?_⟩
  rw [← h2]
  exact flat_chunk h3 (fun x hx => h4 x.1 (by
    have : x.1 ∈ L.map Prod.fst := List.mem_map_of_mem hx
    rw [h2] at this
    exact List.mem_reverse.1 this))
theorem PnRow.rd {w : World} {base : Nat} {v : Value} {P : List PanicM} (h : PnRow w base v P) : RdL CePanic 7 w v P.reverse := by
  refine RdL.mono (fun cs q hq => ?_) (OwnL.rd h)
  obtain ⟨A, c, rfl, ho⟩ := hq
  exact ⟨.slice A 0 c, rfl, ho.1, by rw [ho.2.2.2.2.1]; exact ⟨by simp, by simp, A, c, rfl, by simp, fun h => by simp at h⟩, ho.2.1, ho.2.2.1, ho.2.2.2.1, by rw [ho.2.2.2.2.1]; simp⟩
theorem PnRow.ok {w : World} {base : Nat} {v : Value} {P : List PanicM} (h : PnRow w base v P) : ∀ q ∈ P, okP q := by
  intro q hq
  obtain ⟨xs, _, h2⟩ := h
  obtain ⟨i, hi⟩ := List.getElem?_of_mem (List.mem_reverse.2 hq)
  obtain ⟨cs, ⟨A, c, _, ho⟩, _⟩ := h2.get hi
  exact ho
theorem StOwn.rdState {w : World} {base : Nat} {fv pv : Value} {S : PlM} (h : StOwn w base fv pv S) (hfl : S.fr.length ≤ 30) (hpl : S.pn.length ≤ 600000000) : RdState w (.agg #[fv, pv, .int .i64 S.next, .int .i64 S.ser, .int .i64 S.en, .int .i64 S.stat]) (mOf S) ∧ OkSt (mOf S) :=
  ⟨⟨fv, pv, rfl, h.1.rd, by show S.fr.reverse.length * 56 ≤ _; rw [List.length_reverse]; omega, h.2.1.rd, by show S.pn.reverse.length * 72 ≤ _; rw [List.length_reverse]; omega, h.2.2⟩,
   ⟨fun f hf => h.1.ok f (List.mem_reverse.1 hf), fun q hq => h.2.1.ok q (List.mem_reverse.1 hq), by show S.fr.reverse.length ≤ 30; rw [List.length_reverse]; exact hfl, by show S.pn.reverse.length ≤ _; rw [List.length_reverse]; exact hpl⟩⟩
theorem bdS_of {k : Nat} {S : PlM} (h : Gr k S) (hk : k ≤ 100000) : BdS (mOf S) := ⟨h.n0, by show S.next ≤ _; have := h.n1; omega, h.s0, by show S.ser ≤ _; have := h.s1; omega, fun f hf => by have := h.df f (List.mem_reverse.1 hf); omega⟩
theorem step_own {u : World} {base k : Nat} {fv pv ve : Value} {S : PlM} {e : EventM} (h : StOwn u base fv pv S) (hG : Good S) (he : S.en = 0) (hg : Gr k S) (hk : k ≤ 100000) (nt : S.told = []) (hv : RdEvent u ve e) (hoe : okEv e) : Calls Try.prog 11 #[.agg #[fv, pv, .int .i64 S.next, .int .i64 S.ser, .int .i64 S.en, .int .i64 S.stat], ve] u (StepPost u (eventM S e)) := by
  have e1 : stM (mOf S) = S := by rw [stM_mOf]; unfold noTold; cases S; dsimp only at nt; subst nt; rfl
  have hr := h.rdState hg.fl (by have := hg.pl; omega)
  have hc := step_any u _ ve (mOf S) e hr.1 hr.2 hv hoe (by rw [e1]; exact hG.runs he) (bdS_of hg hk)
  rw [e1] at hc
  exact hc
/-! ### rows of states, rows of what was told -/
def CeSt (base : Nat) (w : World) (cs : List Value) (S : PlM) : Prop := ∃ fv pv, cs = [fv, pv, .int .i64 S.next, .int .i64 S.ser, .int .i64 S.en, .int .i64 S.stat] ∧ StOwn w base fv pv S
theorem CeSt.kp {base : Nat} : ElKp (CeSt base) := fun _ _ _ _ hk ⟨fv, pv, h, h0⟩ => ⟨fv, pv, h, h0.kp hk⟩
def OSts (w : World) (base : Nat) (v : Value) (l : List PlM) : Prop := OwnL (CeSt base) 6 36 w base v l
def CeTs (base : Nat) (w : World) (cs : List Value) (T : List TellM) : Prop := ∃ tv, cs = [tv] ∧ TdRow w base tv T
theorem CeTs.kp {base : Nat} : ElKp (CeTs base) := fun _ _ _ _ hk ⟨tv, h, h0⟩ => ⟨tv, h, h0.kp hk⟩
def OAll (w : World) (base : Nat) (v : Value) (l : List (List TellM)) : Prop := OwnL (CeTs base) 1 38 w base v l
theorem OSts.kp {w w' : World} {base : Nat} {v : Value} {l : List PlM} (h : OSts w base v l) (hk : Kp w w') : OSts w' base v l := OwnL.kp CeSt.kp h hk
theorem OAll.kp {w w' : World} {base : Nat} {v : Value} {l : List (List TellM)} (h : OAll w base v l) (hk : Kp w w') : OAll w' base v l := OwnL.kp CeTs.kp h hk
theorem OSts.touch {w w' : World} {base : Nat} {v : Value} {l : List PlM} {T : TypeId} (h : OSts w base v l) (ht : Touch T w w') (n0 : 36 ≠ T) (n1 : 44 ≠ T) (n2 : 3 ≠ T) (n3 : 46 ≠ T) : OSts w' base v l := by
  obtain ⟨xs, h1, h2⟩ := h
  exact ⟨xs, ownsRow_touch n0 h1 ht, Chunk.mono (w := w) (w' := w') (fun cs S ⟨fv, pv, e, h⟩ => ⟨fv, pv, e, h.touch ht n1 n2 n3⟩) h2⟩
theorem OAll.touch {w w' : World} {base : Nat} {v : Value} {l : List (List TellM)} {T : TypeId} (h : OAll w base v l) (ht : Touch T w w') (n0 : 38 ≠ T) (n1 : 131 ≠ T) : OAll w' base v l := by
  obtain ⟨xs, h1, h2⟩ := h
  exact ⟨xs, ownsRow_touch n0 h1 ht, Chunk.mono (w := w) (w' := w') (fun cs S ⟨tv, e, h⟩ => ⟨tv, e, h.touch ht n1⟩) h2⟩
theorem elTells : El Try.prog 29 38 (.slice none 0 0) 1 24 := El.mk_ Try.underlying29 (by kernel_rfl) rfl (by omega)
def OStsB (w : World) (b0 base : Nat) (v : Value) (l : List PlM) : Prop := OwnL (CeSt b0) 6 36 w base v l
theorem OStsB.kp {w w' : World} {b0 base : Nat} {v : Value} {l : List PlM} (h : OStsB w b0 base v l) (hk : Kp w w') : OStsB w' b0 base v l := OwnL.kp CeSt.kp h hk
theorem OSts.snoc {w w' : World} {b0 base B : Nat} {v v' fv pv : Value} {l : List PlM} {S : PlM} {n : Nat} {xs : List Value} (hx : Chunk (CeSt b0) 6 w xs l) (hown : w.ownsRow base 36 6 v l.length xs) (hg : w.grownBy w' v.ownBlock) (hn : n = l.length + 1) (h : w'.ownsRow base 36 6 v' n (xs ++ [fv, pv, .int .i64 S.next, .int .i64 S.ser, .int .i64 S.en, .int .i64 S.stat])) (ho : StOwn w B fv pv S) (hB : b0 ≤ B) : OStsB w' b0 base v' (l ++ [S]) := by
  have ht := Touch.of_grown hown hg
  have hc : ∀ cs a, CeSt b0 w cs a → CeSt b0 w' cs a := fun cs a ⟨f, p, e, g⟩ => ⟨f, p, e, g.touch ht (by decide) (by decide) (by decide)⟩
  exact OwnL.snoc hn hx hc (hc _ S ⟨fv, pv, rfl, ho.base hB⟩) rfl h
/-- The state's box, set anew. -/
theorem turnBox {u : World} {br : Nat} {fv pv : Value} {fv0 pv0 : Value} {m0 : StateM} (R : PlM) (hb : StBox u br fv0 pv0 m0) :
    Touch 36 u ((((((u.setCell ⟨br, 0, none⟩ fv).setCell ⟨br, 1, none⟩ pv).setCell ⟨br, 2, none⟩ (.int .i64 R.next)).setCell ⟨br, 3, none⟩ (.int .i64 R.ser)).setCell ⟨br, 4, none⟩ (.int .i64 R.en)).setCell ⟨br, 5, none⟩ (.int .i64 R.stat)) ∧ StBox ((((((u.setCell ⟨br, 0, none⟩ fv).setCell ⟨br, 1, none⟩ pv).setCell ⟨br, 2, none⟩ (.int .i64 R.next)).setCell ⟨br, 3, none⟩ (.int .i64 R.ser)).setCell ⟨br, 4, none⟩ (.int .i64 R.en)).setCell ⟨br, 5, none⟩ (.int .i64 R.stat)) br fv pv (numS R) :=
  ⟨(((((rowTouch hb _).trans (rowTouch (blk_set hb _) _)).trans (rowTouch (blk_set (blk_set hb _) _) _)).trans (rowTouch (blk_set (blk_set (blk_set hb _) _) _) _)).trans (rowTouch (blk_set (blk_set (blk_set (blk_set hb _) _) _) _) _)).trans (rowTouch (blk_set (blk_set (blk_set (blk_set (blk_set hb _) _) _) _) _) _), blk_set (blk_set (blk_set (blk_set (blk_set (blk_set hb _) _) _) _) _) _⟩
theorem turnBelow {w u : World} {B br : Nat} (h : B ≤ br) (hk : Below B w u) (v0 v1 v2 v3 v4 v5 : Value) : Below B w ((((((u.setCell ⟨br, 0, none⟩ v0).setCell ⟨br, 1, none⟩ v1).setCell ⟨br, 2, none⟩ v2).setCell ⟨br, 3, none⟩ v3).setCell ⟨br, 4, none⟩ v4).setCell ⟨br, 5, none⟩ v5) :=
  (((((hk.setCell (p := ⟨br, 0, none⟩) h _).setCell (p := ⟨br, 1, none⟩) h _).setCell (p := ⟨br, 2, none⟩) h _).setCell (p := ⟨br, 3, none⟩) h _).setCell (p := ⟨br, 4, none⟩) h _).setCell (p := ⟨br, 5, none⟩) h _
theorem turnSize (u : World) (br : Nat) (v0 v1 v2 v3 v4 v5 : Value) : ((((((u.setCell ⟨br, 0, none⟩ v0).setCell ⟨br, 1, none⟩ v1).setCell ⟨br, 2, none⟩ v2).setCell ⟨br, 3, none⟩ v3).setCell ⟨br, 4, none⟩ v4).setCell ⟨br, 5, none⟩ v5).heap.size = u.heap.size := by
  have h : ∀ (w : World) (p : Addr) (v : Value), (w.setCell p v).heap.size = w.heap.size := fun w p v => by simp [World.setCell]
  rw [h, h, h, h, h, h]
theorem turnFar {u : World} {br g : Nat} {fv pv : Value} {m : StateM} (h : StBox u g fv pv m) (hn : g ≠ br) (v0 v1 v2 v3 v4 v5 : Value) : StBox ((((((u.setCell ⟨br, 0, none⟩ v0).setCell ⟨br, 1, none⟩ v1).setCell ⟨br, 2, none⟩ v2).setCell ⟨br, 3, none⟩ v3).setCell ⟨br, 4, none⟩ v4).setCell ⟨br, 5, none⟩ v5) g fv pv m := by
  unfold StBox
  rw [blk_far (p := ⟨br, 5, none⟩) hn, blk_far (p := ⟨br, 4, none⟩) hn, blk_far (p := ⟨br, 3, none⟩) hn, blk_far (p := ⟨br, 2, none⟩) hn, blk_far (p := ⟨br, 1, none⟩) hn, blk_far (p := ⟨br, 0, none⟩) hn]
  exact h
theorem OStsB.turn {u : World} {b0 base br : Nat} {v : Value} {l : List PlM} (h : OStsB u b0 base v l) (hb : br < base) {v0 v1 v2 v3 v4 v5 : Value} (ht : Touch 36 u ((((((u.setCell ⟨br, 0, none⟩ v0).setCell ⟨br, 1, none⟩ v1).setCell ⟨br, 2, none⟩ v2).setCell ⟨br, 3, none⟩ v3).setCell ⟨br, 4, none⟩ v4).setCell ⟨br, 5, none⟩ v5)) : OStsB ((((((u.setCell ⟨br, 0, none⟩ v0).setCell ⟨br, 1, none⟩ v1).setCell ⟨br, 2, none⟩ v2).setCell ⟨br, 3, none⟩ v3).setCell ⟨br, 4, none⟩ v4).setCell ⟨br, 5, none⟩ v5) b0 base v l := by
  obtain ⟨xs, h1, h2⟩ := h
  exact ⟨xs, ownsRow_setCell_below (ownsRow_setCell_below (ownsRow_setCell_below (ownsRow_setCell_below (ownsRow_setCell_below (ownsRow_setCell_below h1 hb _) hb _) hb _) hb _) hb _) hb _, Chunk.mono (fun cs S ⟨fv, pv, e, h⟩ => ⟨fv, pv, e, h.touch ht (by decide) (by decide) (by decide)⟩) h2⟩
theorem OStsB.touch {w w' : World} {b0 base : Nat} {v : Value} {l : List PlM} {T : TypeId} (h : OStsB w b0 base v l) (ht : Touch T w w') (n0 : 36 ≠ T) (n1 : 44 ≠ T) (n2 : 3 ≠ T) (n3 : 46 ≠ T) : OStsB w' b0 base v l := by
  obtain ⟨xs, h1, h2⟩ := h
  exact ⟨xs, ownsRow_touch n0 h1 ht, Chunk.mono (w := w) (w' := w') (fun cs S ⟨fv, pv, e, h⟩ => ⟨fv, pv, e, h.touch ht n1 n2 n3⟩) h2⟩
theorem OAll.snoc {w w' : World} {base B : Nat} {v v' tv : Value} {l : List (List TellM)} {T : List TellM} {n : Nat} {xs : List Value} (hx : Chunk (CeTs base) 1 w xs l) (hown : w.ownsRow base 38 1 v l.length xs) (hg : w.grownBy w' v.ownBlock) (hn : n = l.length + 1) (h : w'.ownsRow base 38 1 v' n (xs ++ [tv])) (ho : TdRow w B tv T) (hB : base ≤ B) : OAll w' base v' (l ++ [T]) := by
  have ht := Touch.of_grown hown hg
  have hc : ∀ cs a, CeTs base w cs a → CeTs base w' cs a := fun cs a ⟨f, e, g⟩ => ⟨f, e, g.touch ht (by decide)⟩
  exact OwnL.snoc hn hx hc (hc _ T ⟨tv, rfl, OwnL.base_ hB ho⟩) rfl h
def st0 : PlM := stM beginM
theorem st0_runs : Runs st0 := by
  refine ⟨⟨rfl, by unfold st0 stM beginM; simp, ⟨rfl, rfl⟩, by show (0 : Int) < 1; decide, trivial⟩, rfl, rfl, trivial⟩
theorem st0_gr : Gr 0 st0 := ⟨by show 1 ≤ 30; decide, by show (0 : Int) ≤ 1; decide, by show (1 : Int) ≤ 0 + 1; decide, Int.le_refl _, Int.le_refl _, Nat.le_refl _, fun f hf => by
  have : f = ⟨0, 0, -1, 0, []⟩ := by simpa [st0, stM, beginM] using hf
  subst this; exact Nat.le_refl _⟩
/-- What the loop's rounds keep: the current state, the ones so far, and what is still to come. -/
structure Lps (w : World) (l : List EventM) (bs : Nat) (k : Nat) (vs va fv pv : Value) (S : PlM) (done : List PlM) (tl : List (List TellM)) (wr : World) : Prop where
  box : StBox wr bs fv pv (numS S)
  own : StOwn wr w.heap.size fv pv S
  sts : OStsB wr w.heap.size (bs + 1) vs done
  all : OAll wr w.heap.size va tl
  kp : Kp w wr
  bs_ : w.heap.size ≤ bs
  dl : done.length = k + 1
  tl_ : tl.length = k
  st : st0 :: statesM st0 l = done ++ statesM S (l.drop k)
  al : allM st0 l = tl ++ allM S (l.drop k)
  good : Good S
  gr : Gr k S
  nt : S.told = []
theorem statesM_end {S : PlM} (h : S.en ≠ 0) : ∀ l, statesM S l = [] ∧ allM S l = []
  | [] => ⟨rfl, rfl⟩
  | e :: l => ⟨by show (if S.en = 0 then _ else _) = _; rw [if_neg h], by show (if S.en = 0 then _ else _) = _; rw [if_neg h]⟩
def PlayedPost (w : World) (l : List EventM) (e' : Ending) (w' : World) : Prop := (∃ vs va, e' = .returned (.tuple #[vs, va, .bool true]) ∧ OSts w' w.heap.size vs (st0 :: statesM st0 l) ∧ OAll w' w.heap.size va (allM st0 l)) ∧ Kp w w'
theorem Lps.end_ {w wr : World} {l : List EventM} {bs k : Nat} {vs va fv pv : Value} {S : PlM} {done : List PlM} {tl : List (List TellM)} (h : Lps w l bs k vs va fv pv S done tl wr) (he : S.en ≠ 0 ∨ l.length ≤ k) : PlayedPost w l (.returned (.tuple #[vs, va, .bool true])) wr := by
  have e : statesM S (l.drop k) = [] ∧ allM S (l.drop k) = [] := by
    rcases he with he | he
    · exact statesM_end he _
    · rw [List.drop_eq_nil_of_le he]; exact ⟨rfl, rfl⟩
  have h1 := h.st
  have h2 := h.al
  rw [e.1, List.append_nil] at h1
  rw [e.2, List.append_nil] at h2
  refine ⟨⟨vs, va, rfl, ?_, ?_⟩, h.kp⟩
  · rw [h1]; exact OwnL.base_ (Nat.le_trans h.bs_ (Nat.le_succ _)) h.sts
  · rw [h2]; exact h.all
theorem Lps.step {w wr w7 : World} {l : List EventM} {bs k : Nat} {vs va fv pv vs' va' fv' pv' : Value} {S R : PlM} {e : EventM} {done : List PlM} {tl : List (List TellM)} (h : Lps w l bs k vs va fv pv S done tl wr) (he : l[k]? = some e) (hen : S.en = 0) (hR : eventM S e = R)
    (box : StBox w7 bs fv' pv' (numS R)) (own : StOwn w7 w.heap.size fv' pv' R) (sts : OStsB w7 w.heap.size (bs + 1) vs' (done ++ [noTold R])) (all : OAll w7 w.heap.size va' (tl ++ [R.told])) (kp : Kp w w7) : Lps w l bs (k + 1) vs' va' fv' pv' (noTold R) (done ++ [noTold R]) (tl ++ [R.told]) w7 := by
  have hN : nextM S e = noTold R := by unfold nextM; rw [hR]
  have hT : tellsM S e = R.told := by unfold tellsM; rw [hR]
  have hd : l.drop k = e :: l.drop (k + 1) := by
    obtain ⟨hlt, hq⟩ := List.getElem?_eq_some_iff.1 he
    rw [List.drop_eq_getElem_cons hlt, hq]
  refine ⟨box, own, sts, all, kp, h.bs_, by rw [List.length_append, h.dl]; rfl, by rw [List.length_append, h.tl_]; rfl, ?_, ?_, ?_, ?_, rfl⟩
  · rw [h.st, hd]
    show done ++ (if S.en = 0 then nextM S e :: statesM (nextM S e) (l.drop (k + 1)) else []) = _
    rw [if_pos hen, hN, List.append_assoc]; rfl
  · rw [h.al, hd]
    show tl ++ (if S.en = 0 then tellsM S e :: allM (nextM S e) (l.drop (k + 1)) else []) = _
    rw [if_pos hen, hN, hT, List.append_assoc]; rfl
  · rw [← hN]; exact next_good (h.good.runs hen) e
  · rw [← hN]; exact h.gr.next e
/-- What holds between the two appends. -/
structure Mid (w : World) (bs : Nat) (va fv pv tv : Value) (R : PlM) (tl : List (List TellM)) (W : World) : Prop where
  box : StBox W bs fv pv (numS R)
  own : StOwn W w.heap.size fv pv R
  td : TdRow W w.heap.size tv R.told
  all : OAll W w.heap.size va tl
  kp : Kp w W
theorem Mid.app {w W w5 : World} {bs B n : Nat} {va fv pv tv v v' : Value} {R : PlM} {tl : List (List TellM)} {xs : List Value} (h : Mid w bs va fv pv tv R tl W) (hown : W.ownsRow B 36 6 v n xs) (hg : W.grownBy w5 v.ownBlock) (hb : Below B W w5) (hB : bs < B) (hw : w.heap.size ≤ B) : Mid w bs va fv pv tv R tl w5 := by
  have ht := Touch.of_grown hown hg
  exact ⟨h.box.below hb hB, h.own.touch ht (by decide) (by decide) (by decide), h.td.touch ht (by decide), h.all.touch ht (by decide) (by decide), Below.trans h.kp (Below.mono hb hw)⟩
theorem Mid.alloc {w W : World} {bs : Nat} {va fv pv tv : Value} {R : PlM} {tl : List (List TellM)} (h : Mid w bs va fv pv tv R tl W) (C : Obj) : Mid w bs va fv pv tv R tl (W.alloc C) := by
  have hk := (Kp.refl W).alloc C
  exact ⟨h.box.kp hk, h.own.kp hk, h.td.kp hk, h.all.kp hk, h.kp.trans hk⟩
set_option maxRecDepth 20000 in
set_option maxHeartbeats 3000000 in
theorem played_any (v : Value) (l : List EventM) (w : World) (h : RdL CeEvent 6 w v l) (hok : ∀ e ∈ l, okEv e) (hl : l.length ≤ 400) : Calls Try.prog 8 #[v] w (PlayedPost w l) := by
  have HL := hid h; have HOK := hid hok
  obtain ⟨A, c, rfl, hc⟩ := h.form
  clear h hok
  go_enter Try.func8, Try.ntmps8
  go_wp2_with fail
  refine (begin_st w).mono ?_
  rintro e' w1 ⟨⟨fv, rfl, hst⟩, hk1⟩
  have hst' : StOwn w1 w.heap.size fv (.slice none 0 0) st0 := hst
  obtain ⟨Af, cf, _, _, hfv, _⟩ := hst'.form
  have hst0 : st0.fr.length = 1 := rfl
  rw [hst0] at hfv
  subst hfv
  have HST := hid hst'; have HK1 := hid hk1
  have hw1 := hk1.le
  clear hst hk1 hst' hst0
  obtain ⟨C1, hC1⟩ : ∃ C1, C1 = Obj.cells #[.slice Af 1 cf, .slice none 0 0, .int .i64 1, .int .i64 0, .int .i64 0, .int .i64 0] 36 := ⟨_, rfl⟩
  have HB := hid (show StBox ((w1.alloc C1).alloc C1) w1.heap.size (.slice Af 1 cf) (.slice none 0 0) (numS st0) from by rw [hC1]; exact blk_old (blk_new _ _) _)
  have HR := hid (show ((w1.alloc C1).alloc C1).heap[w1.heap.size + 1]? = some (Obj.cells #[.slice Af 1 cf, .slice none 0 0, .int .i64 1, .int .i64 0, .int .i64 0, .int .i64 0] 36 (0, 0)) from by rw [hC1]; exact blk_new2 _ _ _)
  have HKA := hid (show Kp w1 ((w1.alloc C1).alloc C1) from ((Kp.refl _).alloc _).alloc _)
  rw [hC1] at HB HR HKA
  clear hC1
  go_wp2
  generalize ((w1.alloc (Obj.cells #[.slice Af 1 cf, .slice none 0 0, .int .i64 1, .int .i64 0, .int .i64 0, .int .i64 0] 36)).alloc (Obj.cells #[.slice Af 1 cf, .slice none 0 0, .int .i64 1, .int .i64 0, .int .i64 0, .int .i64 0] 36)) = W2 at HB HR HKA ⊢
  go_loopw [6, 7, 8] (fun vs va i wr => ∃ (k : Nat) (S : PlM) (fv pv : Value) (done : List PlM) (tl : List (List TellM)), k ≤ l.length ∧ i = .int .i64 k ∧ Lps w l w1.heap.size k vs va fv pv S done tl wr) (fun _ _ i _ => l.length - (intOf i).toNat)
  case atStart =>
    refine ⟨0, st0, _, _, [st0], [], by omega, rfl, HB.out, HST.out.kp HKA.out, ⟨_, rowLit HR.out (by omega) rfl (by decide), ?_⟩, OwnL.nil _ _ _ _ _, HK1.out.trans HKA.out, hw1, rfl, rfl, by rw [List.drop_zero]; rfl, by rw [List.drop_zero]; rfl, .inl st0_runs, st0_gr, rfl⟩
    exact Chunk.one ⟨.slice Af 1 cf, .slice none 0 0, rfl, HST.out.kp HKA.out⟩ rfl
  case round =>
    obtain ⟨k, S, fv, pv, done, tl, hk, rfl, hps⟩ := hrel
    have HPS := hid hps
    have hwr := hps.kp.le
    obtain ⟨q0, q1, q2, q3, q4, q5⟩ := hps.box.cells
    obtain ⟨A1, c1, B1, d1, rfl, rfl⟩ := hps.own.form
    dsimp only [numS] at q0 q1 q2 q3 q4 q5
    clear hps
    by_cases hlt : k < l.length
    · have i1 : (k : Int) < (l.length : Int) := by omega
      by_cases hen : S.en = 0
      · have t4 : (S.en == 0) = true := beq_iff_eq.2 hen
        have HEN := hid hen
        obtain ⟨e, he0⟩ : ∃ e, l[k]? = some e := ⟨_, List.getElem?_eq_getElem hlt⟩
        have HE := hid he0
        clear hen he0 hk
        go_wp2
        clear q0 q1 q2 q3 q4 q5
        refine wp_region_phase [10, 11] [(0, 1), (0, 1), (0, 1), (0, 1), (0, 1), (0, 1), (0, 1), (0, 1), (0, 2), (0, 2), (0, 0), (0, 0), (0, 2), (0, 2)] (fun a b => Touch 36 a b) [[], [], [], [1, 2], [3], [0, 4], [5], [6], [6], [6], [], [7, 10], [8], [9]]
          (fun (p : Nat) (x : Nat → Value) (u : World) => match p with | 0 => Kp wr u | 1 => (∃ g, x 10 = .pointer (some ⟨g, 0, none⟩) ∧ wr.heap.size ≤ g ∧ StBox u g (.slice none 0 0) (.slice none 0 0) zSt) ∧ Kp wr u | _ => (∃ g fv pv, x 10 = .pointer (some ⟨g, 0, none⟩) ∧ wr.heap.size ≤ g ∧ StBox u g fv pv (numS (eventM S e)) ∧ StOwn u wr.heap.size fv pv (eventM S e)) ∧ Kp wr u)
          [fun (y : Value) (u : World) => y = (.agg #[.slice A1 S.fr.length c1, .slice B1 S.pn.length d1, .int .i64 S.next, .int .i64 S.ser, .int .i64 S.en, .int .i64 S.stat] : Value),
           fun (y : Value) (u : World) => y = (.slice A l.length c : Value),
           fun (y : Value) (u : World) => y = (.int .i64 (k : Int) : Value),
           fun (y : Value) (u : World) => ∃ b off, y = .pointer (some ⟨b, off + k * 6, none⟩) ∧ A = some ⟨b, off, none⟩,
           fun (y : Value) (u : World) => RdEvent wr y e,
           fun (y : Value) (u : World) => ∃ fv pv tv, y = .tuple #[.agg #[fv, pv, .int .i64 (eventM S e).next, .int .i64 (eventM S e).ser, .int .i64 (eventM S e).en, .int .i64 (eventM S e).stat], tv, .int .i64 0] ∧ StOwn u wr.heap.size fv pv (eventM S e) ∧ TdRow u wr.heap.size tv (eventM S e).told,
           fun (y : Value) (u : World) => ∃ fv pv tv, y = .tuple #[.agg #[fv, pv, .int .i64 (eventM S e).next, .int .i64 (eventM S e).ser, .int .i64 (eventM S e).en, .int .i64 (eventM S e).stat], tv, .int .i64 0] ∧ StOwn u wr.heap.size fv pv (eventM S e) ∧ TdRow u wr.heap.size tv (eventM S e).told,
           fun (y : Value) (u : World) => ∃ fv pv, y = .agg #[fv, pv, .int .i64 (eventM S e).next, .int .i64 (eventM S e).ser, .int .i64 (eventM S e).en, .int .i64 (eventM S e).stat] ∧ StOwn u wr.heap.size fv pv (eventM S e),
           fun (y : Value) (u : World) => TdRow u wr.heap.size y (eventM S e).told,
           fun (y : Value) (u : World) => y = (.int .i64 0 : Value),
           fun (y : Value) (u : World) => True,
           fun (y : Value) (u : World) => True,
           fun (y : Value) (u : World) => TdRow u wr.heap.size y (eventM S e).told,
           fun (y : Value) (u : World) => y = (.int .i64 0 : Value)]
          (by kernel_rfl) (by kernel_rfl) (by kernel_rfl) (by kernel_rfl) (by kernel_rfl) (by kernel_rfl) (fun a b hk => Touch.of_kp hk) ((Kp.refl _).drew) ?hKb ?hXb ⟨fun _ _ _ _ h => h, fun _ _ _ _ h => h, fun _ _ _ _ h => h, fun _ _ _ _ h => h, fun _ _ _ _ h => h, fun _ _ _ hk ⟨fv, pv, tv, h, h1, h2⟩ => ⟨fv, pv, tv, h, h1.touch hk (by decide) (by decide) (by decide), h2.touch hk (by decide)⟩, fun _ _ _ hk ⟨fv, pv, tv, h, h1, h2⟩ => ⟨fv, pv, tv, h, h1.touch hk (by decide) (by decide) (by decide), h2.touch hk (by decide)⟩, fun _ _ _ hk ⟨fv, pv, h, h1⟩ => ⟨fv, pv, h, h1.touch hk (by decide) (by decide) (by decide)⟩, fun _ _ _ hk h => h.touch hk (by decide), fun _ _ _ _ h => h, fun _ _ _ _ _ => trivial, fun _ _ _ _ _ => trivial, fun _ _ _ hk h => h.touch hk (by decide), fun _ _ _ _ h => h, trivial⟩ ⟨?sb0, ?sb1, ?sb2, ?sb3, ?sb4, ?sb5, ?sb6, ?sb7, ?sb8, ?sb9, ?sb10, ?sb11, ?sb12, ?sb13, trivial⟩ ?hEb
        case hKb =>
          intro p x w w' hk h
          rcases p with _ | _ | p
          · exact h.trans hk
          · exact (let ⟨⟨g, h1, h2, h3⟩, h4⟩ := h; ⟨⟨g, h1, h2, h3.kp hk⟩, h4.trans hk⟩)
          · exact (let ⟨⟨g, fv, pv, h1, h2, h3, h5⟩, h4⟩ := h; ⟨⟨g, fv, pv, h1, h2, h3.kp hk, h5.kp hk⟩, h4.trans hk⟩)
        case hXb =>
          intro p x i v w hi h
          have e0 : upd x i v 10 = x 10 := if_neg (fun hh => hi (by rw [← hh]; decide))
          have e1 : upd x i v 11 = x 11 := if_neg (fun hh => hi (by rw [← hh]; decide))
          rcases p with _ | _ | p
          · first | exact h | (simp only [e0, e1]; exact h)
          · first | exact h | (simp only [e0, e1]; exact h)
          · first | exact h | (simp only [e0, e1]; exact h)
        case sb0 =>
          refine OpStepQ.off 0 1 (by kernel_rfl) (by kernel_rfl) ?_
          intro x u p hp hg hd K hK
          clear hd
          have hgk : Kp wr u := by
            rcases p with _ | _ | p
            · exact hg
            · exact hg.2
            · exact hg.2
          obtain ⟨q0, q1, q2, q3, q4, q5⟩ := (HPS.out.box.kp hgk).cells
          dsimp only [numS] at q0 q1 q2 q3 q4 q5
          refine ⟨?_⟩
          simp only [putsFrom, Act.put, List.setIfInBounds_toArray, List.set_cons_zero, List.set_cons_succ, Nat.reduceAdd] at hK ⊢
          go_simp
          exact hK.out _ _ (Kp.refl _) rfl
        case sb1 =>
          refine OpStepQ.off 0 1 (by kernel_rfl) (by kernel_rfl) ?_
          intro x u p hp hg hd K hK
          clear hd
          refine ⟨?_⟩
          simp only [putsFrom, Act.put, List.setIfInBounds_toArray, List.set_cons_zero, List.set_cons_succ, Nat.reduceAdd] at hK ⊢
          go_simp
          exact hK.out _ _ (Kp.refl _) rfl
        case sb2 =>
          refine OpStepQ.off 0 1 (by kernel_rfl) (by kernel_rfl) ?_
          intro x u p hp hg hd K hK
          clear hd
          refine ⟨?_⟩
          simp only [putsFrom, Act.put, List.setIfInBounds_toArray, List.set_cons_zero, List.set_cons_succ, Nat.reduceAdd] at hK ⊢
          go_simp
          exact hK.out _ _ (Kp.refl _) rfl
        case sb3 =>
          refine OpStepQ.off 0 1 (by kernel_rfl) (by kernel_rfl) ?_
          intro x u p hp hg hd K hK
          have d1 : (x 1) = .slice A l.length c := And.left hd
          have d2 : (x 2) = .int .i64 (k : Int) := And.left (And.right hd)
          clear hd
          obtain ⟨b, off, rfl, hb, _⟩ := at_event (HL.out.kp CeEvent.kp HPS.out.kp) HE.out
          refine ⟨?_⟩
          simp only [putsFrom, Act.put, List.setIfInBounds_toArray, List.set_cons_zero, List.set_cons_succ, Nat.reduceAdd, d1, d2] at hK ⊢
          go_simp
          exact hK.out _ _ (Kp.refl _) ⟨b, off, rfl, rfl⟩
        case sb4 =>
          refine OpStepQ.off 0 1 (by kernel_rfl) (by kernel_rfl) ?_
          intro x u p hp hg hd K hK
          have d3 : ∃ b off, (x 3) = .pointer (some ⟨b, off + k * 6, none⟩) ∧ A = some ⟨b, off, none⟩ := And.left hd
          clear hd
          have hgk : Kp wr u := by
            rcases p with _ | _ | p
            · exact hg
            · exact hg.2
            · exact hg.2
          obtain ⟨b, off, hx3, rfl⟩ := d3
          obtain ⟨b', off', hA, hb, lv, q0, q1, q2, q3, q4, q5, o0, o1, o2, o3, o4, o5, o6⟩ := at_event (HL.out.kp CeEvent.kp HPS.out.kp) HE.out
          injection hA with hA
          injection hA with h1 h2
          subst h1 h2
          replace q0 := cell_kp hgk hb q0
          replace q1 := cell_kp hgk hb q1
          replace q2 := cell_kp hgk hb q2
          replace q3 := cell_kp hgk hb q3
          replace q4 := cell_kp hgk hb q4
          replace q5 := cell_kp hgk hb q5
          have HV := hid (show RdEvent wr (.agg #[.int .i64 e.kind, .int .i64 e.n, .int .i64 e.v.k, .int .i64 e.v.n, .string e.v.s, lv]) e from ⟨_, rfl, o0, o1, o2, o3, o4, o5, o6⟩)
          clear o0 o1 o2 o3 o4 o5 o6
          refine ⟨?_⟩
          simp only [putsFrom, Act.put, List.setIfInBounds_toArray, List.set_cons_zero, List.set_cons_succ, Nat.reduceAdd, hx3] at hK ⊢
          go_simp
          exact hK.out _ _ (Kp.refl _) HV.out
        case sb5 =>
          refine OpStepQ.off 0 1 (by kernel_rfl) (by kernel_rfl) ?_
          intro x u p hp hg hd K hK
          have d0 : (x 0) = .agg #[.slice A1 S.fr.length c1, .slice B1 S.pn.length d1, .int .i64 S.next, .int .i64 S.ser, .int .i64 S.en, .int .i64 S.stat] := And.left hd
          have d4 : RdEvent wr (x 4) e := And.left (And.right hd)
          clear hd
          have hgk : Kp wr u := by
            rcases p with _ | _ | p
            · exact hg
            · exact hg.2
            · exact hg.2
          refine ⟨?_⟩
          simp only [putsFrom, Act.put, List.setIfInBounds_toArray, List.set_cons_zero, List.set_cons_succ, Nat.reduceAdd, d0] at hK ⊢
          go_simp
          go_at_call 11
          have hc := step_own (HPS.out.own.kp hgk) HPS.out.good HEN.out HPS.out.gr (by omega) HPS.out.nt (d4.kp hgk) (HOK.out e (List.mem_of_getElem? HE.out))
          refine hc.mono ?_
          clear hc
          rintro e u' ⟨⟨fv, pv, tv, rfl, h1, h2⟩, hk⟩
          dsimp only
          exact hK.out _ _ hk ⟨fv, pv, tv, rfl, h1.base hgk.le, OwnL.base_ hgk.le h2⟩
        case sb6 =>
          refine OpStepQ.off 0 1 (by kernel_rfl) (by kernel_rfl) ?_
          intro x u p hp hg hd K hK
          have d5 : ∃ fv pv tv, (x 5) = .tuple #[.agg #[fv, pv, .int .i64 (eventM S e).next, .int .i64 (eventM S e).ser, .int .i64 (eventM S e).en, .int .i64 (eventM S e).stat], tv, .int .i64 0] ∧ StOwn u wr.heap.size fv pv (eventM S e) ∧ TdRow u wr.heap.size tv (eventM S e).told := And.left hd
          clear hd
          refine ⟨?_⟩
          simp only [putsFrom, Act.put, List.setIfInBounds_toArray, List.set_cons_zero, List.set_cons_succ, Nat.reduceAdd] at hK ⊢
          go_simp
          exact hK.out _ _ (Kp.refl _) d5
        case sb7 =>
          refine OpStepQ.off 0 1 (by kernel_rfl) (by kernel_rfl) ?_
          intro x u p hp hg hd K hK
          have d6 : ∃ fv pv tv, (x 6) = .tuple #[.agg #[fv, pv, .int .i64 (eventM S e).next, .int .i64 (eventM S e).ser, .int .i64 (eventM S e).en, .int .i64 (eventM S e).stat], tv, .int .i64 0] ∧ StOwn u wr.heap.size fv pv (eventM S e) ∧ TdRow u wr.heap.size tv (eventM S e).told := And.left hd
          clear hd
          obtain ⟨fv, pv, tv, hx6, h6, _⟩ := d6
          refine ⟨?_⟩
          simp only [putsFrom, Act.put, List.setIfInBounds_toArray, List.set_cons_zero, List.set_cons_succ, Nat.reduceAdd, hx6] at hK ⊢
          go_simp
          exact hK.out _ _ (Kp.refl _) ⟨fv, pv, rfl, h6⟩
        case sb8 =>
          refine OpStepQ.off 0 2 (by kernel_rfl) (by kernel_rfl) ?_
          intro x u p hp hg hd K hK
          have d6 : ∃ fv pv tv, (x 6) = .tuple #[.agg #[fv, pv, .int .i64 (eventM S e).next, .int .i64 (eventM S e).ser, .int .i64 (eventM S e).en, .int .i64 (eventM S e).stat], tv, .int .i64 0] ∧ StOwn u wr.heap.size fv pv (eventM S e) ∧ TdRow u wr.heap.size tv (eventM S e).told := And.left hd
          clear hd
          obtain ⟨fv, pv, tv, hx6, _, h6⟩ := d6
          refine ⟨?_⟩
          simp only [putsFrom, Act.put, List.setIfInBounds_toArray, List.set_cons_zero, List.set_cons_succ, Nat.reduceAdd, hx6] at hK ⊢
          go_simp
          exact hK.out _ _ (Kp.refl _) h6
        case sb9 =>
          refine OpStepQ.off 0 2 (by kernel_rfl) (by kernel_rfl) ?_
          intro x u p hp hg hd K hK
          have d6 : ∃ fv pv tv, (x 6) = .tuple #[.agg #[fv, pv, .int .i64 (eventM S e).next, .int .i64 (eventM S e).ser, .int .i64 (eventM S e).en, .int .i64 (eventM S e).stat], tv, .int .i64 0] ∧ StOwn u wr.heap.size fv pv (eventM S e) ∧ TdRow u wr.heap.size tv (eventM S e).told := And.left hd
          clear hd
          obtain ⟨fv, pv, tv, hx6, _, h6⟩ := d6
          refine ⟨?_⟩
          simp only [putsFrom, Act.put, List.setIfInBounds_toArray, List.set_cons_zero, List.set_cons_succ, Nat.reduceAdd, hx6] at hK ⊢
          go_simp
          exact hK.out _ _ (Kp.refl _) rfl
        case sb10 =>
          refine OpStepQ.on 0 (by kernel_rfl) (by kernel_rfl) ?_
          intro x u hg hd K hK
          change Kp wr u at hg
          clear hd
          refine ⟨?_⟩
          simp only [putsFrom, Act.put, List.setIfInBounds_toArray, List.set_cons_zero, List.set_cons_succ, Nat.reduceAdd] at hK ⊢
          go_simp
          exact hK.out _ _ (Touch.of_kp ((Kp.refl u).alloc _)) ⟨⟨_, rfl, hg.le, blk_new _ _⟩, hg.alloc _⟩ trivial
        case sb11 =>
          refine OpStepQ.on 1 (by kernel_rfl) (by kernel_rfl) ?_
          intro x u hg hd K hK
          change (∃ g, x 10 = .pointer (some ⟨g, 0, none⟩) ∧ wr.heap.size ≤ g ∧ StBox u g (.slice none 0 0) (.slice none 0 0) zSt) ∧ Kp wr u at hg
          have d7 : ∃ fv pv, (x 7) = .agg #[fv, pv, .int .i64 (eventM S e).next, .int .i64 (eventM S e).ser, .int .i64 (eventM S e).en, .int .i64 (eventM S e).stat] ∧ StOwn u wr.heap.size fv pv (eventM S e) := And.left hd
          clear hd
          obtain ⟨⟨g, hx10, hge, hbx⟩, hgk⟩ := hg
          obtain ⟨fv, pv, hx7, h7⟩ := d7
          obtain ⟨A9, c9, B9, d9, rfl, rfl⟩ := h7.form
          obtain ⟨z0, z1, z2, z3, z4, z5, zf⟩ := hbx.cells
          dsimp only [zSt] at z0 z1 z2 z3 z4 z5
          have HBX := hid hbx
          clear hbx
          refine ⟨?_⟩
          simp only [putsFrom, Act.put, List.setIfInBounds_toArray, List.set_cons_zero, List.set_cons_succ, Nat.reduceAdd, hx7] at hK ⊢
          go_simp
          have hq := hK.out undef _ (turnBox (eventM S e) HBX.out).1 ⟨⟨g, _, _, hx10, hge, (turnBox (eventM S e) HBX.out).2, h7.touch (turnBox (eventM S e) HBX.out).1 (by decide) (by decide) (by decide)⟩, turnBelow hge hgk _ _ _ _ _ _⟩ trivial
          rw [hx10] at hq
          exact hq
        case sb12 =>
          refine OpStepQ.off 0 2 (by kernel_rfl) (by kernel_rfl) ?_
          intro x u p hp hg hd K hK
          have d8 : TdRow u wr.heap.size (x 8) (eventM S e).told := And.left hd
          clear hd
          refine ⟨?_⟩
          simp only [putsFrom, Act.put, List.setIfInBounds_toArray, List.set_cons_zero, List.set_cons_succ, Nat.reduceAdd] at hK ⊢
          go_simp
          exact hK.out _ _ (Kp.refl _) d8
        case sb13 =>
          refine OpStepQ.off 0 2 (by kernel_rfl) (by kernel_rfl) ?_
          intro x u p hp hg hd K hK
          have d9 : (x 9) = .int .i64 0 := And.left hd
          clear hd
          refine ⟨?_⟩
          simp only [putsFrom, Act.put, List.setIfInBounds_toArray, List.set_cons_zero, List.set_cons_succ, Nat.reduceAdd, d9] at hK ⊢
          go_simp
          exact hK.out _ _ (Kp.refl _) rfl
        intro x u hg he
        have d0 : (x 0) = .agg #[.slice A1 S.fr.length c1, .slice B1 S.pn.length d1, .int .i64 S.next, .int .i64 S.ser, .int .i64 S.en, .int .i64 S.stat] := And.left he
        have d1 : (x 1) = .slice A l.length c := And.left (And.right he)
        have d2 : (x 2) = .int .i64 (k : Int) := And.left (And.right (And.right he))
        have d3 : ∃ b off, (x 3) = .pointer (some ⟨b, off + k * 6, none⟩) ∧ A = some ⟨b, off, none⟩ := And.left (And.right (And.right (And.right he)))
        have d4 : RdEvent wr (x 4) e := And.left (And.right (And.right (And.right (And.right he))))
        have d5 : ∃ fv pv tv, (x 5) = .tuple #[.agg #[fv, pv, .int .i64 (eventM S e).next, .int .i64 (eventM S e).ser, .int .i64 (eventM S e).en, .int .i64 (eventM S e).stat], tv, .int .i64 0] ∧ StOwn u wr.heap.size fv pv (eventM S e) ∧ TdRow u wr.heap.size tv (eventM S e).told := And.left (And.right (And.right (And.right (And.right (And.right he)))))
        have d6 : ∃ fv pv tv, (x 6) = .tuple #[.agg #[fv, pv, .int .i64 (eventM S e).next, .int .i64 (eventM S e).ser, .int .i64 (eventM S e).en, .int .i64 (eventM S e).stat], tv, .int .i64 0] ∧ StOwn u wr.heap.size fv pv (eventM S e) ∧ TdRow u wr.heap.size tv (eventM S e).told := And.left (And.right (And.right (And.right (And.right (And.right (And.right he))))))
        have d7 : ∃ fv pv, (x 7) = .agg #[fv, pv, .int .i64 (eventM S e).next, .int .i64 (eventM S e).ser, .int .i64 (eventM S e).en, .int .i64 (eventM S e).stat] ∧ StOwn u wr.heap.size fv pv (eventM S e) := And.left (And.right (And.right (And.right (And.right (And.right (And.right (And.right he)))))))
        have d8 : TdRow u wr.heap.size (x 8) (eventM S e).told := And.left (And.right (And.right (And.right (And.right (And.right (And.right (And.right (And.right he))))))))
        have d9 : (x 9) = .int .i64 0 := And.left (And.right (And.right (And.right (And.right (And.right (And.right (And.right (And.right (And.right he)))))))))
        have d12 : TdRow u wr.heap.size (x 12) (eventM S e).told := And.left (And.right (And.right (And.right (And.right (And.right (And.right (And.right (And.right (And.right (And.right (And.right (And.right he))))))))))))
        have d13 : (x 13) = .int .i64 0 := And.left (And.right (And.right (And.right (And.right (And.right (And.right (And.right (And.right (And.right (And.right (And.right (And.right (And.right he)))))))))))))
        clear he
        change (∃ g fv pv, x 10 = .pointer (some ⟨g, 0, none⟩) ∧ wr.heap.size ≤ g ∧ StBox u g fv pv (numS (eventM S e)) ∧ StOwn u wr.heap.size fv pv (eventM S e)) ∧ Kp wr u at hg
        refine ⟨?_⟩
        simp only [putsFrom, Act.put, List.setIfInBounds_toArray, List.set_cons_zero, List.set_cons_succ, Nat.reduceAdd, d0, d1, d2, d9, d13]
        clear d0 d1 d2 d9 d13
        obtain ⟨⟨g, f2, p2, hx10, hge, hbx, hso⟩, hku⟩ := hg
        obtain ⟨A9, c9, hx12, _⟩ := d12.len
        rw [hx12] at d12
        rw [hx10, hx12]
        clear d3 d4 d5 d6 d7 d8
        obtain ⟨A7, c7, B7, e7, rfl, rfl⟩ := hso.form
        have HBX := hid hbx; have HSO := hid hso; have HKU := hid hku; have HT := hid d12; have HGE := hid hge
        clear hx10 hx12 d12
        obtain ⟨R, hR⟩ : ∃ R, eventM S e = R := ⟨_, rfl⟩
        rw [hR] at HBX HSO HT ⊢
        have HRR := hid hR
        obtain ⟨z0, z1, z2, z3, z4, z5, zf⟩ := HBX.out.cells
        dsimp only [numS] at z0 z1 z2 z3 z4 z5
        clear hR hbx hso hku hge
        have HBS := hid HPS.out.bs_
        have HDL := hid HPS.out.dl
        have HTL := hid HPS.out.tl_
        have hbx0 := HPS.out.box.kp HKU.out
        have htb := turnBox (fv := .slice A7 R.fr.length c7) (pv := .slice B7 R.pn.length e7) R hbx0
        obtain ⟨xs, hown, hch⟩ := (HPS.out.sts.kp HKU.out).turn (Nat.lt_succ_self _) htb.1
        rw [HDL.out] at hown
        have HOWN := hid hown; have HCH := hid hch
        have HM6 := hid (Mid.mk (w := w) (va := u7) (tl := tl) htb.2 ((HSO.out.touch htb.1 (by decide) (by decide) (by decide)).base hwr) (OwnL.base_ hwr (HT.out.touch htb.1 (by decide))) ((HPS.out.all.kp HKU.out).touch htb.1 (by decide) (by decide)) (turnBelow HBS.out (HPS.out.kp.trans HKU.out) _ _ _ _ _ _))
        obtain ⟨q0, q1, q2, q3, q4, q5, qf⟩ := hbx0.cells
        dsimp only [numS] at q0 q1 q2 q3 q4 q5
        have hbw : w1.heap.size < wr.heap.size := blk_lt HPS.out.box
        have hgn : g ≠ w1.heap.size := by have := HGE.out; omega
        have hgn' : w1.heap.size ≠ g := Ne.symm hgn
        obtain ⟨Ao, co, rfl⟩ := own_form hown
        have B1 := hid (show k + 1 + 1 ≤ maxLen by unfold maxLen; omega)
        have B2 := hid (show (k + 1 + 1) * 80 ≤ 140737488355328 by omega)
        have B3 := hid (show w1.heap.size + 1 ≤ u.heap.size from by
          have := HKU.out.le; omega)
        have B4 := hid (show k + 1 ≤ maxLen by unfold maxLen; omega)
        have B5 := hid (show (k + 1) * 24 ≤ 140737488355328 by omega)
        clear hbx0 htb hown hch hbw
        have hfar := turnFar HBX.out hgn (.slice A7 R.fr.length c7) (.slice B7 R.pn.length e7) (.int .i64 R.next) (.int .i64 R.ser) (.int .i64 R.en) (.int .i64 R.stat)
        have hsz6 := turnSize u w1.heap.size (.slice A7 R.fr.length c7) (.slice B7 R.pn.length e7) (.int .i64 R.next) (.int .i64 R.ser) (.int .i64 R.en) (.int .i64 R.stat)
        obtain ⟨W6, hW6⟩ : ∃ W6, ((((((u.setCell ⟨w1.heap.size, 0, none⟩ (.slice A7 R.fr.length c7)).setCell ⟨w1.heap.size, 1, none⟩ (.slice B7 R.pn.length e7)).setCell ⟨w1.heap.size, 2, none⟩ (.int .i64 R.next)).setCell ⟨w1.heap.size, 3, none⟩ (.int .i64 R.ser)).setCell ⟨w1.heap.size, 4, none⟩ (.int .i64 R.en)).setCell ⟨w1.heap.size, 5, none⟩ (.int .i64 R.stat)) = W6 := ⟨_, rfl⟩
        rw [hW6] at HOWN HCH HM6 hfar hsz6
        obtain ⟨y0, y1, y2, y3, y4, y5, _⟩ := hfar.cells
        dsimp only [numS] at y0 y1 y2 y3 y4 y5
        have B6 := hid (show w1.heap.size + 1 ≤ W6.heap.size by rw [hsz6]; exact B3.out)
        clear hfar hsz6 hgn hgn'
        have hcase : (((R.fr.length : Int) == 0) = false) ∨ (((R.fr.length : Int) == 0) = true ∧ (R.en == 0) = false) := by
          by_cases hz : R.fr.length = 0
          · refine .inr ⟨by simp [hz], beq_eq_false_iff_ne.2 fun h0 => ?_⟩
            have hg := next_good (HPS.out.good.runs HEN.out) e
            have hN : nextM S e = noTold R := by unfold nextM; rw [HRR.out]
            rw [hN] at hg
            exact hg.ne h0 (List.eq_nil_of_length_eq_zero hz)
          · exact .inl (by rw [beq_eq_false_iff_ne]; omega)
        rcases hcase with t7 | ⟨t7, t8⟩
        · go_wp2_with (at_builtin; refine app_lit_at W6.heap.size ?p0 elState ?p1 (.tmp 54) (.tmp 56) ?p2 HOWN.out ?p3 #[.slice A7 R.fr.length c7, .slice B7 R.pn.length e7, .int .i64 R.next, .int .i64 R.ser, .int .i64 R.en, .int .i64 R.stat] 36 1 1 ?p4 ?p5 ?p6 B1.out B2.out B6.out ?p7)
          case p0 => rfl
          case p1 => rfl
          case p2 => rfl
          case p3 => rfl
          case p4 => rfl
          case p5 => rfl
          case p6 => exact ⟨rfl, rfl, rfl, rfl, rfl, rfl⟩
          case p7 =>
            intro v5 w5 hown5 hg5 hm5 hb5
            have HM5 := hid (HM6.out.app (v' := v5) HOWN.out hg5 hb5 (Nat.lt_succ_self _) (Nat.le_succ_of_le HBS.out))
            have HS5 : Hid (OStsB w5 w.heap.size (w1.heap.size + 1) v5 (done ++ [noTold R])) := hid (OSts.snoc (S := noTold R) HCH.out (by rw [HDL.out]; exact HOWN.out) hg5 (by rw [HDL.out]) hown5 HM6.out.own (Nat.le_refl _))
            obtain ⟨xs7, hown7, hch7⟩ := HM5.out.all
            rw [HTL.out] at hown7
            obtain ⟨A5, c5, rfl⟩ := own_form hown5
            have HOWN7 := hid hown7; have HCH7 := hid hch7; have HLE5 := hid (Kp.le HM5.out.kp)
            clear hown5 hg5 hm5 hb5 hown7 hch7
            go_wp2_with (at_builtin; refine app_lit_at w5.heap.size ?p0x elTells ?p1x (.tmp 58) (.tmp 60) ?p2x HOWN7.out ?p3x #[.slice A9 R.told.length c9] 38 1 1 ?p4x ?p5x ?p6x B4.out B5.out ?pbx ?p7x)
            case p0x => rfl
            case p1x => rfl
            case p2x => rfl
            case p3x => rfl
            case p4x => rfl
            case p5x => rfl
            case p6x => rfl
            case pbx => exact HLE5.out
            case p7x =>
              intro v8 w8 hown8 hg8 hm8 hb8
              have ht8 := Touch.of_grown HOWN7.out hg8
              have HP8 : Hid (Lps w l w1.heap.size (k + 1) (.slice A5 (k + 2) c5) v8 (.slice A7 R.fr.length c7) (.slice B7 R.pn.length e7) (noTold R) (done ++ [noTold R]) (tl ++ [R.told]) w8) := hid (HPS.out.step HE.out HEN.out HRR.out (HM5.out.box.touch ht8 (by decide)) (HM5.out.own.touch ht8 (by decide) (by decide) (by decide)) (HS5.out.touch ht8 (by decide) (by decide) (by decide) (by decide)) (OAll.snoc HCH7.out (by rw [HTL.out]; exact HOWN7.out) hg8 (by rw [HTL.out]) hown8 HM5.out.td (Nat.le_refl _)) (Below.trans HM5.out.kp hb8))
              clear hown8 hg8 hm8 hb8 ht8
              go_wp2
              go_roundw
              case rel => exact ⟨k + 1, noTold R, _, _, _, _, hlt, by simp, HP8.out⟩
              case measure => simp [intOf]; omega
        · go_wp2_with (at_builtin; refine app_lit_at W6.heap.size ?q0 elState ?q1 (.tmp 54) (.tmp 56) ?q2 HOWN.out ?q3 #[.slice A7 R.fr.length c7, .slice B7 R.pn.length e7, .int .i64 R.next, .int .i64 R.ser, .int .i64 R.en, .int .i64 R.stat] 36 1 1 ?q4 ?q5 ?q6 B1.out B2.out B6.out ?q7)
          case q0 => rfl
          case q1 => rfl
          case q2 => rfl
          case q3 => rfl
          case q4 => rfl
          case q5 => rfl
          case q6 => exact ⟨rfl, rfl, rfl, rfl, rfl, rfl⟩
          case q7 =>
            intro v5 w5 hown5 hg5 hm5 hb5
            have HM5 := hid (HM6.out.app (v' := v5) HOWN.out hg5 hb5 (Nat.lt_succ_self _) (Nat.le_succ_of_le HBS.out))
            have HS5 : Hid (OStsB w5 w.heap.size (w1.heap.size + 1) v5 (done ++ [noTold R])) := hid (OSts.snoc (S := noTold R) HCH.out (by rw [HDL.out]; exact HOWN.out) hg5 (by rw [HDL.out]) hown5 HM6.out.own (Nat.le_refl _))
            obtain ⟨xs7, hown7, hch7⟩ := HM5.out.all
            rw [HTL.out] at hown7
            obtain ⟨A5, c5, rfl⟩ := own_form hown5
            have HOWN7 := hid hown7; have HCH7 := hid hch7; have HLE5 := hid (Kp.le HM5.out.kp)
            clear hown5 hg5 hm5 hb5 hown7 hch7
            go_wp2_with (at_builtin; refine app_lit_at w5.heap.size ?q0x elTells ?q1x (.tmp 58) (.tmp 60) ?q2x HOWN7.out ?q3x #[.slice A9 R.told.length c9] 38 1 1 ?q4x ?q5x ?q6x B4.out B5.out ?qbx ?q7x)
            case q0x => rfl
            case q1x => rfl
            case q2x => rfl
            case q3x => rfl
            case q4x => rfl
            case q5x => rfl
            case q6x => rfl
            case qbx => exact HLE5.out
            case q7x =>
              intro v8 w8 hown8 hg8 hm8 hb8
              have ht8 := Touch.of_grown HOWN7.out hg8
              have HP8 : Hid (Lps w l w1.heap.size (k + 1) (.slice A5 (k + 2) c5) v8 (.slice A7 R.fr.length c7) (.slice B7 R.pn.length e7) (noTold R) (done ++ [noTold R]) (tl ++ [R.told]) w8) := hid (HPS.out.step HE.out HEN.out HRR.out (HM5.out.box.touch ht8 (by decide)) (HM5.out.own.touch ht8 (by decide) (by decide) (by decide)) (HS5.out.touch ht8 (by decide) (by decide) (by decide) (by decide)) (OAll.snoc HCH7.out (by rw [HTL.out]; exact HOWN7.out) hg8 (by rw [HTL.out]) hown8 HM5.out.td (Nat.le_refl _)) (Below.trans HM5.out.kp hb8))
              clear hown8 hg8 hm8 hb8 ht8
              go_wp2
              go_roundw
              case rel => exact ⟨k + 1, noTold R, _, _, _, _, hlt, by simp, HP8.out⟩
              case measure => simp [intOf]; omega
      · have t4 : (S.en == 0) = false := beq_eq_false_iff_ne.2 hen
        have HEN := hid hen
        clear hen
        go_wp2
        exact bodyPost_ret (v := .tuple #[u6, u7, .bool true]) (by simp [results, Try.results8, go_sem]) rfl (HPS.out.end_ (.inl HEN.out))
    · have i1 : ¬ (k : Int) < (l.length : Int) := by omega
      clear hk
      go_wp2
      exact bodyPost_ret (v := .tuple #[u6, u7, .bool true]) (by simp [results, Try.results8, go_sem]) rfl (HPS.out.end_ (.inr (by omega)))
end Go.Proofs.Ytiicdknmoakocaa
