/-
  Package panics: copied, Begin, Step. Condition: what is told, and the numbers, stay small.
-/
import Derived.Test.YtiicdknmoakocaaPanV
import Derived.Test.YtiicdknmoakocaaClone
namespace Go.Proofs.Ytiicdknmoakocaa
open Go.RowKit
set_option linter.unusedVariables false
set_option linter.unusedSimpArgs false

set_option maxHeartbeats 1000000 in
theorem clone_frames (A : Option Addr) (n c : Nat) (w : World) (news : List Value) (hl : news.length = n * 5) (hsrc : 0 < n → ∃ ad, A = some ad ∧ ∀ j u, news[j]? = some u → w.cell? (ad.add j) = some u) (h1 : ∀ u ∈ news, u.oneCell' = true) (hb : n * 56 ≤ 140737488355328) :
    Calls Try.prog 55 #[.slice A n c] w fun e w' => (∃ v', e = .returned v' ∧ w'.ownsRow w.heap.size 44 5 v' n news) ∧ Kp w w' := by
  have q22 : ∀ (w : World) (a : Option Addr) (n c n' c' : Nat), (binOp .eql 33 (.slice a n c) (.slice none n' c')).run Try.prog w = .ok (.bool a.isNone) w := fun w a n c n' c' => Lib.run_eql_slice_nil w _ _ a n c n' c' Try.underlying33
  have HS := hid hsrc
  clear hsrc
  cases A with
  | none =>
    have hn : n = 0 := by
      rcases Nat.eq_zero_or_pos n with h | h
      · exact h
      · obtain ⟨_, e, _⟩ := HS.out h; cases e
    subst hn
    obtain rfl : news = [] := List.eq_nil_of_length_eq_zero (by simpa using hl)
    go_enter Try.func55, Try.ntmps55
    go_wp2
    go_ret
    exact ⟨⟨_, rfl, World.ownsRow_nil _ _ _ _⟩, Kp.refl _⟩
  | some ad =>
    have HC : Hid (0 < n → ∃ ad', some ad = some ad' ∧ ∀ j u, news[j]? = some u → (w.alloc (.cells #[] 44)).cell? (ad'.add j) = some u) := hid fun hp => by
      obtain ⟨ad', e, hc⟩ := HS.out hp
      exact ⟨ad', e, fun j u hu => Lib.cell?_alloc_some _ (hc j u hu)⟩
    have HO := hid (World.ownsRow_made w #[] 0 (e := 44) (size := 5) (Nat.le_refl _) (Nat.zero_le _) rfl)
    go_enter Try.func55, Try.ntmps55
    go_wp2_with (at_builtin; go_must (refine app_src elFrame rfl (.tmp 5) (.tmp 6) rfl HO.out rfl news _ _ _ rfl hl HC.out h1 (by unfold maxLen; omega) (by omega) (by simp) ?_); intro v1 w1 hown1 hg1 hm1 hb1)
    go_ret
    exact ⟨⟨_, rfl, by simpa using hown1⟩, Below.trans ((Kp.refl _).alloc _) hb1⟩
set_option maxHeartbeats 1000000 in
theorem clone_panics (A : Option Addr) (n c : Nat) (w : World) (news : List Value) (hl : news.length = n * 7) (hsrc : 0 < n → ∃ ad, A = some ad ∧ ∀ j u, news[j]? = some u → w.cell? (ad.add j) = some u) (h1 : ∀ u ∈ news, u.oneCell' = true) (hb : n * 72 ≤ 140737488355328) :
    Calls Try.prog 57 #[.slice A n c] w fun e w' => (∃ v', e = .returned v' ∧ w'.ownsRow w.heap.size 46 7 v' n news) ∧ Kp w w' := by
  have q22 : ∀ (w : World) (a : Option Addr) (n c n' c' : Nat), (binOp .eql 34 (.slice a n c) (.slice none n' c')).run Try.prog w = .ok (.bool a.isNone) w := fun w a n c n' c' => Lib.run_eql_slice_nil w _ _ a n c n' c' Try.underlying34
  have HS := hid hsrc
  clear hsrc
  cases A with
  | none =>
    have hn : n = 0 := by
      rcases Nat.eq_zero_or_pos n with h | h
      · exact h
      · obtain ⟨_, e, _⟩ := HS.out h; cases e
    subst hn
    obtain rfl : news = [] := List.eq_nil_of_length_eq_zero (by simpa using hl)
    go_enter Try.func57, Try.ntmps57
    go_wp2
    go_ret
    exact ⟨⟨_, rfl, World.ownsRow_nil _ _ _ _⟩, Kp.refl _⟩
  | some ad =>
    have HC : Hid (0 < n → ∃ ad', some ad = some ad' ∧ ∀ j u, news[j]? = some u → (w.alloc (.cells #[] 46)).cell? (ad'.add j) = some u) := hid fun hp => by
      obtain ⟨ad', e, hc⟩ := HS.out hp
      exact ⟨ad', e, fun j u hu => Lib.cell?_alloc_some _ (hc j u hu)⟩
    have HO := hid (World.ownsRow_made w #[] 0 (e := 46) (size := 7) (Nat.le_refl _) (Nat.zero_le _) rfl)
    go_enter Try.func57, Try.ntmps57
    go_wp2_with (at_builtin; go_must (refine app_src elPanic rfl (.tmp 5) (.tmp 6) rfl HO.out rfl news _ _ _ rfl hl HC.out h1 (by unfold maxLen; omega) (by omega) (by simp) ?_); intro v1 w1 hown1 hg1 hm1 hb1)
    go_ret
    exact ⟨⟨_, rfl, by simpa using hown1⟩, Below.trans ((Kp.refl _).alloc _) hb1⟩

/-- Activations as a reader sees them, as cells. -/
theorem chunk_flat {w : World} : ∀ {l : List FrameM} {xs : List Value}, Chunk CeFrame 5 w xs l → ∃ L : List (FrameM × Value), xs = flatF L ∧ L.map Prod.fst = l ∧ ∀ x ∈ L, RdInts w x.2 x.1.defers
  | [], xs, h => ⟨[], h, rfl, fun x hx => by cases hx⟩
  | f :: l, xs, h => by
    obtain ⟨cs, r, rfl, h1, ⟨d, rfl, _, _, _, _, h2, _⟩, h3⟩ := h
    obtain ⟨L, rfl, h4, h5⟩ := chunk_flat h3
    exact ⟨(f, d) :: L, rfl, by rw [List.map_cons, h4], fun x hx => by
      rcases List.mem_cons.1 hx with rfl | hx
      · exact h2
      · exact h5 x hx⟩
theorem flatF_one : ∀ (L : List (FrameM × Value)), (∀ x ∈ L, x.2.oneCell' = true) → ∀ u ∈ flatF L, u.oneCell' = true
  | [], _, u, hu => by cases hu
  | x :: L, h, u, hu => by
    rcases List.mem_append.1 hu with hu | hu
    · simp only [frCells, List.mem_cons, List.not_mem_nil, or_false] at hu
      rcases hu with rfl | rfl | rfl | rfl | rfl
      · rfl
      · rfl
      · rfl
      · rfl
      · exact h x (List.mem_cons_self ..)
    · exact flatF_one L (fun y hy => h y (List.mem_cons_of_mem _ hy)) u hu
theorem rdInts_one {w : World} {v : Value} {xs : List Int} (h : RdInts w v xs) : v.oneCell' = true := by
  obtain ⟨A, c, rfl⟩ := h.form; rfl
theorem cePanic_p {w : World} {cs : List Value} {q : PanicM} (h : CePanic w cs q) (ho : okP q) : CeP w cs q := by
  obtain ⟨lv, rfl, h1, h2, h3⟩ := h
  obtain ⟨A, c, e⟩ := h2.form
  rw [ho.2.2.2.2.1] at e
  exact ⟨A, c, by rw [e]; rfl, ho⟩
theorem chunk_p {w : World} : ∀ {l : List PanicM} {xs : List Value}, Chunk CePanic 7 w xs l → (∀ q ∈ l, okP q) → Chunk CeP 7 w xs l
  | [], xs, h, _ => h
  | f :: l, xs, h, ho => by
    obtain ⟨cs, r, rfl, h1, h2, h3⟩ := h
    exact ⟨cs, r, rfl, h1, cePanic_p h2 (ho f (List.mem_cons_self ..)), chunk_p h3 (fun q hq => ho q (List.mem_cons_of_mem _ hq))⟩
theorem ceP_one {w : World} : ∀ cs q, CeP w cs q → ∀ u ∈ cs, u.oneCell' = true := by
  intro cs q ⟨A, c, e, _⟩ u hu
  subst e
  simp at hu
  rcases hu with rfl | rfl | rfl | rfl | rfl | rfl | rfl <;> rfl
/-- A state that may be stepped. -/
def stM (m : StateM) : PlM := ⟨m.frames.reverse, m.panics.reverse, m.next, m.serial, m.end_, m.status, []⟩
structure OkSt (m : StateM) : Prop where
  fr : ∀ f ∈ m.frames, okF f
  pn : ∀ q ∈ m.panics, okP q
  fl : m.frames.length ≤ 30
  pl : m.panics.length ≤ 600000000
/-- What Step leaves of a state: rows of the call's own. -/
def StOwn (w : World) (base : Nat) (fv pv : Value) (S : PlM) : Prop := FrRow w base fv S.fr ∧ PnRow w base pv S.pn ∧ okI S.next ∧ okI S.ser ∧ okI S.en ∧ okI S.stat
/-- The activations midway: the first ones own their deferred calls, the others are as they came in. -/
def MidF (w0 : World) (base : Nat) (fv : Value) (l : List FrameM) (i : Nat) (w : World) : Prop := ∃ a b : List (FrameM × Value), w.ownsRow base 44 5 fv l.length (flatF (a ++ b)) ∧ (a ++ b).map Prod.fst = l ∧ a.length = i ∧ (∀ x ∈ a, OwnI w base x.2 x.1.defers) ∧ a.Pairwise Ap ∧ ∀ x ∈ b, RdInts w0 x.2 x.1.defers
theorem MidF.kp {w0 w w' : World} {base : Nat} {fv : Value} {l : List FrameM} {i : Nat} (h : MidF w0 base fv l i w) (hk : Kp w w') : MidF w0 base fv l i w' := by
  obtain ⟨a, b, h1, h2, h3, h4, h5, h6⟩ := h
  exact ⟨a, b, ownsRow_keep h1 hk, h2, h3, fun x hx => ownsRow_keep (h4 x hx) hk, h5, h6⟩
/-- One more. -/
theorem MidF.step {w0 w w' : World} {base g c : Nat} {l : List FrameM} {i : Nat} {f : FrameM} {d : Value} (h : MidF w0 base (.slice (some ⟨g, 0, none⟩) l.length c) l i w) (hi : l[i]? = some f) (hk : Kp w w') (ho : OwnI w' w.heap.size d f.defers) (hb : base ≤ w.heap.size) : MidF w0 base (.slice (some ⟨g, 0, none⟩) l.length c) l (i + 1) (w'.setCell ⟨g, i * 5 + 4, none⟩ d) := by
  obtain ⟨a, b, h1, h2, h3, h4, h5, h6⟩ := h
  have hab : (a ++ b).length = l.length := by rw [← h2, List.length_map]
  have hil : i < l.length := (List.getElem?_eq_some_iff.1 hi).1
  cases b with
  | nil => rw [List.append_nil] at hab; omega
  | cons x b =>
    have hx : x.1 = f := by
      have := congrArg (fun z => z[i]?) h2
      simp only [List.map_append, List.map_cons] at this
      rw [List.getElem?_append_right (by simp [h3]), List.length_map, h3, Nat.sub_self, hi] at this
      simpa using this
    have h1' := ownsRow_keep h1 hk
    obtain ⟨cs, fr, hbk⟩ := rowBlk h1'
    have ht := rowTouch (o := i * 5 + 4) hbk d
    have hlt : ∀ y ∈ a, ∀ q, y.2.ownBlock = some q → q < w.heap.size := fun y hy q hq => (World.ownsRow.lt (h4 y hy) q hq).2
    refine ⟨a ++ [(f, d)], b, ?_, ?_, by simp [h3], fun y hy => ?_, ?_, fun y hy => h6 y (List.mem_cons_of_mem _ hy)⟩
    · have h7 := rowSet h1' (show i * 5 + 4 < l.length * 5 by omega) d
      rw [← h3, flatF_set a b x (f, d) 4 (by omega) d (by rw [← hx]; rfl)] at h7
      rw [← h3]
      simpa using h7
    · rw [← h2]; simp [hx]
    · rcases List.mem_append.1 hy with hy | hy
      · exact ownsRow_touch (by decide) (ownsRow_keep (h4 y hy) hk) ht
      · rw [List.mem_singleton] at hy; subst hy
        exact ownsRow_touch (by decide) (own_base hb ho) ht
    · rw [List.pairwise_append]
      refine ⟨h5, List.pairwise_singleton _ _, fun y hy z hz => ?_⟩
      rw [List.mem_singleton] at hz; subst hz
      intro q hq hc
      have := hlt y hy q hq
      have := (World.ownsRow.lt ho q hc).1
      omega
theorem MidF.at_ {w0 w : World} {base g c : Nat} {l : List FrameM} {i : Nat} {f : FrameM} (h : MidF w0 base (.slice (some ⟨g, 0, none⟩) l.length c) l i w) (hi : l[i]? = some f) : ∃ d, w.cell? ⟨g, i * 5 + 4, none⟩ = some d ∧ RdInts w0 d f.defers ∧ w.frozen? ⟨g, i * 5 + 4, none⟩ = false ∧ base ≤ g ∧ g < w.heap.size := by
  obtain ⟨a, b, h1, h2, h3, h4, h5, h6⟩ := h
  have hab : (a ++ b).length = l.length := by rw [← h2, List.length_map]
  have hil : i < l.length := (List.getElem?_eq_some_iff.1 hi).1
  cases b with
  | nil => rw [List.append_nil] at hab; omega
  | cons x b =>
    have hx : x.1 = f := by
      have := congrArg (fun z => z[i]?) h2
      simp only [List.map_append, List.map_cons] at this
      rw [List.getElem?_append_right (by simp [h3]), List.length_map, h3, Nat.sub_self, hi] at this
      simpa using this
    obtain ⟨g1, g2⟩ := rowAt h1 (show i * 5 + 4 < l.length * 5 by omega)
    refine ⟨x.2, ?_, by rw [← hx]; exact h6 x (List.mem_cons_self ..), g2, rowGe h1⟩
    rw [g1, ← h3]
    exact flatF_at a b x 4 (by omega)
theorem MidF.done {w0 w : World} {base : Nat} {fv : Value} {l : List FrameM} (h : MidF w0 base fv l l.length w) (ho : ∀ f ∈ l, okF f) : FrRow w base fv l.reverse := by
  obtain ⟨a, b, h1, h2, h3, h4, h5, h6⟩ := h
  have hab : (a ++ b).length = l.length := by rw [← h2, List.length_map]
  have hb : b = [] := by
    apply List.eq_nil_of_length_eq_zero
    rw [List.length_append] at hab; omega
  subst hb
  rw [List.append_nil] at h1 h2
  refine ⟨a, by rw [h3]; exact h1, by rw [h2, List.reverse_reverse], h4, fun f hf => ho f (List.mem_reverse.1 hf), h5⟩
theorem MidF.touch {w0 w w' : World} {base : Nat} {fv : Value} {l : List FrameM} {i : Nat} {T : TypeId} (h : MidF w0 base fv l i w) (ht : Touch T w w') (n1 : 44 ≠ T) (n2 : 3 ≠ T) : MidF w0 base fv l i w' := by
  obtain ⟨a, b, h1, h2, h3, h4, h5, h6⟩ := h
  exact ⟨a, b, ownsRow_touch n1 h1 ht, h2, h3, fun x hx => ownsRow_touch n2 (h4 x hx) ht, h5, h6⟩
theorem blk_new2 (w : World) (o1 o2 : Obj) : ((w.alloc o1).alloc o2).heap[w.heap.size + 1]? = some o2 := by
  have e : (w.alloc o1).heap.size = w.heap.size + 1 := by simp
  rw [← e]; exact blk_new _ _
theorem cell_some_kp {w w' : World} {a : Addr} {v : Value} (hk : Kp w w') (h : w.cell? a = some v) : w'.cell? a = some v := by
  rw [World.cell?_of_block (hk.block a.block (block_lt_of_cell h))]; exact h
def StBox (w : World) (b : Nat) (fv pv : Value) (m : StateM) : Prop := w.heap[b]? = some (.cells #[fv, pv, .int .i64 m.next, .int .i64 m.serial, .int .i64 m.end_, .int .i64 m.status] 36 (0, 0))
theorem StBox.kp {w w' : World} {b : Nat} {fv pv : Value} {m : StateM} (h : StBox w b fv pv m) (hk : Kp w w') : StBox w' b fv pv m := (hk.block b (blk_lt h)).trans h
theorem StBox.touch {w w' : World} {b : Nat} {fv pv : Value} {m : StateM} {T : TypeId} (h : StBox w b fv pv m) (ht : Touch T w w') (n : 36 ≠ T) : StBox w' b fv pv m := ht.2 b _ h (fun _ _ e => by injection e with _ e _; exact n e)
theorem StBox.cells {w : World} {b : Nat} {fv pv : Value} {m : StateM} (h : StBox w b fv pv m) : w.cell? ⟨b, 0, none⟩ = some fv ∧ w.cell? ⟨b, 1, none⟩ = some pv ∧ w.cell? ⟨b, 2, none⟩ = some (.int .i64 m.next) ∧ w.cell? ⟨b, 3, none⟩ = some (.int .i64 m.serial) ∧ w.cell? ⟨b, 4, none⟩ = some (.int .i64 m.end_) ∧ w.cell? ⟨b, 5, none⟩ = some (.int .i64 m.status) ∧ ∀ j, w.frozen? ⟨b, j, none⟩ = false := ⟨blk_cell h rfl, blk_cell h rfl, blk_cell h rfl, blk_cell h rfl, blk_cell h rfl, blk_cell h rfl, fun j => blk_free h⟩
def zSt : StateM := ⟨[], [], 0, 0, 0, 0⟩
theorem PnRow.redo {w : World} {base g c n i : Nat} {P : List PanicM} {q : PanicM} (h : PnRow w base (.slice (some ⟨g, 0, none⟩) n c) P) (hi : P.reverse[i]? = some q) (j : Nat) (hj : j < 7) (u : Value)
    (hu : ∀ A c, ∃ A' c', (([.int .i64 q.serial, .int .i64 q.val.k, .int .i64 q.val.n, .string q.val.s, .slice A 0 c, .bool q.rcd, .bool q.abt] : List Value).set j u) = [.int .i64 q.serial, .int .i64 q.val.k, .int .i64 q.val.n, .string q.val.s, .slice A' 0 c', .bool q.rcd, .bool q.abt]) :
    PnRow (w.setCell ⟨g, i * 7 + j, none⟩ u) base (.slice (some ⟨g, 0, none⟩) n c) P := by
  obtain ⟨xs, h1, h2⟩ := h
  rw [List.length_reverse] at h1
  have hi2 : i < P.length := by have := (List.getElem?_eq_some_iff.1 hi).1; rwa [List.length_reverse] at this
  have hn : n = P.length := rowN h1
  subst hn
  have h3 : Chunk CeP 7 (w.setCell ⟨g, i * 7 + j, none⟩ u) xs P.reverse := Chunk.mono (w := w) (w' := w.setCell ⟨g, i * 7 + j, none⟩ u) (fun _ _ h => h) h2
  have h4 := Chunk.set j hj u h3 hi (b := q) (fun cs hc hl => by
    obtain ⟨A, c, rfl, ho⟩ := hc
    obtain ⟨A', c', e⟩ := hu A c
    exact ⟨A', c', e, ho⟩)
  have e : P.reverse.set i q = P.reverse := by
    apply List.ext_getElem?
    intro k
    by_cases hk : i = k
    · subst hk; rw [List.getElem?_set_self (by rw [List.length_reverse]; exact hi2), hi]
    · rw [List.getElem?_set_ne hk]
  rw [e] at h4
  exact ⟨xs.set (i * 7 + j) u, by rw [List.length_reverse]; exact rowSet h1 (show i * 7 + j < P.length * 7 by omega) u, h4⟩
set_option maxRecDepth 20000 in
set_option maxHeartbeats 4000000 in
theorem copied_any (v : Value) (m : StateM) (w : World) (h : RdState w v m) (ho : OkSt m) : Calls Try.prog 32 #[v] w fun e w' => (∃ fv pv, e = .returned (.agg #[fv, pv, .int .i64 m.next, .int .i64 m.serial, .int .i64 m.end_, .int .i64 m.status]) ∧ StOwn w' w.heap.size fv pv (stM m)) ∧ Kp w w' := by
  obtain ⟨lf, lp, rfl, hf, hfl, hp, hpl, n0, n1, n2, n3⟩ := h
  have HF := hid hf; have HP := hid hp; have HO := hid ho; have HN := hid (show okI m.next ∧ okI m.serial ∧ okI m.end_ ∧ okI m.status from ⟨n0, n1, n2, n3⟩)
  obtain ⟨Af, cf, rfl, hcf⟩ := hf.form
  obtain ⟨Ap, cp, rfl, hcp⟩ := hp.form
  have hnf : m.frames.length ≤ 30 := ho.fl
  have hnp : m.panics.length ≤ 600000000 := ho.pl
  clear hf hp ho n0 n1 n2 n3
  have HB1 := hid (show StBox ((w.alloc (.cells #[.slice Af m.frames.length cf, .slice Ap m.panics.length cp, .int .i64 m.next, .int .i64 m.serial, .int .i64 m.end_, .int .i64 m.status] 36)).alloc (.cells #[.slice none 0 0, .slice none 0 0, .int .i64 0, .int .i64 0, .int .i64 0, .int .i64 0] 36)) w.heap.size (.slice Af m.frames.length cf) (.slice Ap m.panics.length cp) m from blk_old (blk_new _ _) _)
  have HB2 := hid (show StBox ((w.alloc (.cells #[.slice Af m.frames.length cf, .slice Ap m.panics.length cp, .int .i64 m.next, .int .i64 m.serial, .int .i64 m.end_, .int .i64 m.status] 36)).alloc (.cells #[.slice none 0 0, .slice none 0 0, .int .i64 0, .int .i64 0, .int .i64 0, .int .i64 0] 36)) (w.heap.size + 1) (.slice none 0 0) (.slice none 0 0) zSt from blk_new2 _ _ _)
  have HK := hid (show Kp w ((w.alloc (.cells #[.slice Af m.frames.length cf, .slice Ap m.panics.length cp, .int .i64 m.next, .int .i64 m.serial, .int .i64 m.end_, .int .i64 m.status] 36)).alloc (.cells #[.slice none 0 0, .slice none 0 0, .int .i64 0, .int .i64 0, .int .i64 0, .int .i64 0] 36)) from ((Kp.refl w).alloc _).alloc _)
  go_enter Try.func32, Try.ntmps32
  go_wp2_with fail
  generalize ((w.alloc (.cells #[.slice Af m.frames.length cf, .slice Ap m.panics.length cp, .int .i64 m.next, .int .i64 m.serial, .int .i64 m.end_, .int .i64 m.status] 36)).alloc (.cells #[.slice none 0 0, .slice none 0 0, .int .i64 0, .int .i64 0, .int .i64 0, .int .i64 0] 36)) = W1 at HB1 HB2 HK ⊢
  have hw1 := HK.out.le
  obtain ⟨news, hch, _, hsrc⟩ := RdL.src HF.out
  obtain ⟨L0, rfl, hL1, hL2⟩ := chunk_flat hch
  have hc := clone_frames Af m.frames.length cf W1 (flatF L0) hch.len (fun hp => by obtain ⟨ad, e, hc⟩ := hsrc hp; exact ⟨ad, e, fun j u hu => cell_some_kp HK.out (hc j u hu)⟩) (flatF_one L0 (fun x hx => rdInts_one (hL2 x hx))) (by omega)
  have HL1 := hid hL1; have HL2 := hid hL2
  clear hch hsrc hL1 hL2
  refine hc.mono ?_; clear hc
  rintro e w2 ⟨⟨fv, rfl, hown⟩, hk2⟩
  obtain ⟨Ag, cg, rfl⟩ := own_form hown
  have HM := hid (show MidF w w.heap.size (.slice Ag m.frames.length cg) m.frames 0 w2 from ⟨[], L0, own_base (by omega) hown, by rw [List.nil_append]; exact HL1.out, rfl, (fun x hx => by cases hx), List.Pairwise.nil, HL2.out⟩)
  have HB1' := hid (HB1.out.kp hk2); have HB2' := hid (HB2.out.kp hk2); have HK2 := hid (HK.out.trans hk2)
  obtain ⟨c0, _, _, _, _, _, cz⟩ := HB1'.out.cells
  clear hown hk2
  have hb3 : StBox (w2.setCell ⟨w.heap.size, 0, none⟩ (.slice Ag m.frames.length cg)) w.heap.size (.slice Ag m.frames.length cg) (.slice Ap m.panics.length cp) m := blk_set HB1'.out _
  have ht3 := rowTouch (o := 0) HB1'.out (.slice Ag m.frames.length cg)
  have hb4 : StBox (w2.setCell ⟨w.heap.size, 0, none⟩ (.slice Ag m.frames.length cg)) (w.heap.size + 1) (.slice none 0 0) (.slice none 0 0) zSt := (blk_far (p := ⟨w.heap.size, 0, none⟩) (by show w.heap.size + 1 ≠ w.heap.size; omega) _).trans HB2'.out
  have HB3 := hid hb3; have HB4 := hid hb4; have HM3 := hid (HM.out.touch ht3 (by decide) (by decide)); have HK3 := hid (HK2.out.setCell (p := ⟨w.heap.size, 0, none⟩) (Nat.le_refl _) (.slice Ag m.frames.length cg))
  clear hb3 ht3 hb4
  go_wp2
  clear c0 cz
  go_loopw [12] (fun i wr => ∃ k : Nat, k ≤ m.frames.length ∧ i = .int .i64 k ∧ MidF w w.heap.size (.slice Ag m.frames.length cg) m.frames k wr ∧ StBox wr w.heap.size (.slice Ag m.frames.length cg) (.slice Ap m.panics.length cp) m ∧ StBox wr (w.heap.size + 1) (.slice none 0 0) (.slice none 0 0) zSt ∧ Kp w wr) (fun i _ => m.frames.length - (intOf i).toNat)
  case atStart => exact ⟨0, by omega, rfl, HM3.out, HB3.out, HB4.out, HK3.out⟩
  case round =>
    obtain ⟨k, hk, rfl, hm, hb1, hb2, hkp⟩ := hrel
    have HMM := hid hm; have HX1 := hid hb1; have HX2 := hid hb2; have HKP := hid hkp
    have hwsz := hkp.le
    have hbl := blk_lt hb1
    by_cases hlt : k < m.frames.length
    · obtain ⟨f, hf⟩ : ∃ f, m.frames[k]? = some f := ⟨_, List.getElem?_eq_getElem hlt⟩
      have HFF := hid hf
      have i1 : (k : Int) < (m.frames.length : Int) := by omega
      have i2 : (0 : Int) ≤ (k : Int) := by omega
      obtain ⟨gF, e, hgc⟩ : ∃ gF, Value.slice Ag m.frames.length cg = .slice (some ⟨gF, 0, none⟩) m.frames.length cg ∧ True := by
        obtain ⟨a, b, h1, _⟩ := hm
        obtain ⟨g, c, e, _⟩ := rowSome h1 (by omega)
        injection e with e1 e2 e3
        subst e1; subst e3
        exact ⟨g, rfl, trivial⟩
      injection e with e1 _ _
      subst e1
      obtain ⟨d, q4, qd, qf, qg1, qg2⟩ := MidF.at_ hm hf
      have Q4 := hid q4; have QD := hid qd; have QF := hid qf
      clear hm hb1 hb2 hkp hf q4 qd qf hgc
      go_wp2
      refine wp_region_last 12 [[], [0], [], [], [3], [], [4, 5], [6], [7], [8], [1, 2], [10], [9, 11]] (fun u => Kp wr u)
        [fun (y : Value) (u : World) => y = (.pointer (some ⟨w.heap.size, 0, none⟩) : Value),
         fun (y : Value) (u : World) => y = (.slice (some ⟨gF, 0, none⟩) m.frames.length cg : Value),
         fun (y : Value) (u : World) => y = (.int .i64 (k : Int) : Value),
         fun (y : Value) (u : World) => y = (.pointer (some ⟨w.heap.size, 0, none⟩) : Value),
         fun (y : Value) (u : World) => y = (.slice (some ⟨gF, 0, none⟩) m.frames.length cg : Value),
         fun (y : Value) (u : World) => y = (.int .i64 (k : Int) : Value),
         fun (y : Value) (u : World) => y = (.pointer (some ⟨gF, k * 5, none⟩) : Value),
         fun (y : Value) (u : World) => y = (.pointer (some ⟨gF, k * 5 + 4, none⟩) : Value),
         fun (y : Value) (u : World) => y = (d : Value),
         fun (y : Value) (u : World) => OwnI u wr.heap.size y f.defers,
         fun (y : Value) (u : World) => y = (.pointer (some ⟨gF, k * 5, none⟩) : Value),
         fun (y : Value) (u : World) => y = (.pointer (some ⟨gF, k * 5 + 4, none⟩) : Value)]
        (by kernel_rfl) (by kernel_rfl) (by kernel_rfl) (by kernel_rfl) (by kernel_rfl) (by kernel_rfl) ((Kp.refl _).drew) (fun _ _ hk h => h.trans hk) ⟨fun _ _ _ _ h => h, fun _ _ _ _ h => h, fun _ _ _ _ h => h, fun _ _ _ _ h => h, fun _ _ _ _ h => h, fun _ _ _ _ h => h, fun _ _ _ _ h => h, fun _ _ _ _ h => h, fun _ _ _ _ h => h, fun _ _ _ hk h => ownsRow_keep h hk, fun _ _ _ _ h => h, fun _ _ _ _ h => h, trivial⟩ ⟨?sb0, ?sb1, ?sb2, ?sb3, ?sb4, ?sb5, ?sb6, ?sb7, ?sb8, ?sb9, ?sb10, ?sb11, trivial⟩ ⟨?hEb, trivial⟩
      case sb0 =>
        intro x u hg hd K hK
        clear hd
        refine ⟨?_⟩
        simp only [putsFrom, Act.put, List.setIfInBounds_toArray, List.set_cons_zero, List.set_cons_succ, Nat.reduceAdd] at hK ⊢
        go_simp
        exact hK.out _ _ (Kp.refl _) rfl
      case sb1 =>
        intro x u hg hd K hK
        have d0 : (x 0) = .pointer (some ⟨w.heap.size, 0, none⟩) := And.left hd
        clear hd
        have q9 := (HX1.out.kp hg).cells.1
        refine ⟨?_⟩
        simp only [putsFrom, Act.put, List.setIfInBounds_toArray, List.set_cons_zero, List.set_cons_succ, Nat.reduceAdd, d0] at hK ⊢
        go_simp
        exact hK.out _ _ (Kp.refl _) rfl
      case sb2 =>
        intro x u hg hd K hK
        clear hd
        refine ⟨?_⟩
        simp only [putsFrom, Act.put, List.setIfInBounds_toArray, List.set_cons_zero, List.set_cons_succ, Nat.reduceAdd] at hK ⊢
        go_simp
        exact hK.out _ _ (Kp.refl _) rfl
      case sb3 =>
        intro x u hg hd K hK
        clear hd
        refine ⟨?_⟩
        simp only [putsFrom, Act.put, List.setIfInBounds_toArray, List.set_cons_zero, List.set_cons_succ, Nat.reduceAdd] at hK ⊢
        go_simp
        exact hK.out _ _ (Kp.refl _) rfl
      case sb4 =>
        intro x u hg hd K hK
        have d3 : (x 3) = .pointer (some ⟨w.heap.size, 0, none⟩) := And.left hd
        clear hd
        have q9 := (HX1.out.kp hg).cells.1
        refine ⟨?_⟩
        simp only [putsFrom, Act.put, List.setIfInBounds_toArray, List.set_cons_zero, List.set_cons_succ, Nat.reduceAdd, d3] at hK ⊢
        go_simp
        exact hK.out _ _ (Kp.refl _) rfl
      case sb5 =>
        intro x u hg hd K hK
        clear hd
        refine ⟨?_⟩
        simp only [putsFrom, Act.put, List.setIfInBounds_toArray, List.set_cons_zero, List.set_cons_succ, Nat.reduceAdd] at hK ⊢
        go_simp
        exact hK.out _ _ (Kp.refl _) rfl
      case sb6 =>
        intro x u hg hd K hK
        have d4 : (x 4) = .slice (some ⟨gF, 0, none⟩) m.frames.length cg := And.left hd
        have d5 : (x 5) = .int .i64 (k : Int) := And.left (And.right hd)
        clear hd
        refine ⟨?_⟩
        simp only [putsFrom, Act.put, List.setIfInBounds_toArray, List.set_cons_zero, List.set_cons_succ, Nat.reduceAdd, d4, d5] at hK ⊢
        go_simp
        exact hK.out _ _ (Kp.refl _) rfl
      case sb7 =>
        intro x u hg hd K hK
        have d6 : (x 6) = .pointer (some ⟨gF, k * 5, none⟩) := And.left hd
        clear hd
        refine ⟨?_⟩
        simp only [putsFrom, Act.put, List.setIfInBounds_toArray, List.set_cons_zero, List.set_cons_succ, Nat.reduceAdd, d6] at hK ⊢
        go_simp
        exact hK.out _ _ (Kp.refl _) rfl
      case sb8 =>
        intro x u hg hd K hK
        have d7 : (x 7) = .pointer (some ⟨gF, k * 5 + 4, none⟩) := And.left hd
        clear hd
        have q9 := cell_kp hg qg2 Q4.out
        refine ⟨?_⟩
        simp only [putsFrom, Act.put, List.setIfInBounds_toArray, List.set_cons_zero, List.set_cons_succ, Nat.reduceAdd, d7] at hK ⊢
        go_simp
        exact hK.out _ _ (Kp.refl _) rfl
      case sb9 =>
        intro x u hg hd K hK
        have d8 : (x 8) = d := And.left hd
        clear hd
        refine ⟨?_⟩
        simp only [putsFrom, Act.put, List.setIfInBounds_toArray, List.set_cons_zero, List.set_cons_succ, Nat.reduceAdd, d8] at hK ⊢
        go_simp
        go_at_call 56
        have hc := clone_ints d f.defers u ((QD.out.kp HKP.out).kp hg)
        refine hc.mono ?_
        clear hc
        rintro e u' ⟨⟨v', rfl, h⟩, hk⟩
        dsimp only
        exact hK.out _ _ hk (own_base hg.le h)
      case sb10 =>
        intro x u hg hd K hK
        have d1 : (x 1) = .slice (some ⟨gF, 0, none⟩) m.frames.length cg := And.left hd
        have d2 : (x 2) = .int .i64 (k : Int) := And.left (And.right hd)
        clear hd
        refine ⟨?_⟩
        simp only [putsFrom, Act.put, List.setIfInBounds_toArray, List.set_cons_zero, List.set_cons_succ, Nat.reduceAdd, d1, d2] at hK ⊢
        go_simp
        exact hK.out _ _ (Kp.refl _) rfl
      case sb11 =>
        intro x u hg hd K hK
        have d10 : (x 10) = .pointer (some ⟨gF, k * 5, none⟩) := And.left hd
        clear hd
        refine ⟨?_⟩
        simp only [putsFrom, Act.put, List.setIfInBounds_toArray, List.set_cons_zero, List.set_cons_succ, Nat.reduceAdd, d10] at hK ⊢
        go_simp
        exact hK.out _ _ (Kp.refl _) rfl
      intro x u hg he K hK
      have d0 : (x 0) = .pointer (some ⟨w.heap.size, 0, none⟩) := And.left he
      have d1 : (x 1) = .slice (some ⟨gF, 0, none⟩) m.frames.length cg := And.left (And.right he)
      have d2 : (x 2) = .int .i64 (k : Int) := And.left (And.right (And.right he))
      have d3 : (x 3) = .pointer (some ⟨w.heap.size, 0, none⟩) := And.left (And.right (And.right (And.right he)))
      have d4 : (x 4) = .slice (some ⟨gF, 0, none⟩) m.frames.length cg := And.left (And.right (And.right (And.right (And.right he))))
      have d5 : (x 5) = .int .i64 (k : Int) := And.left (And.right (And.right (And.right (And.right (And.right he)))))
      have d6 : (x 6) = .pointer (some ⟨gF, k * 5, none⟩) := And.left (And.right (And.right (And.right (And.right (And.right (And.right he))))))
      have d7 : (x 7) = .pointer (some ⟨gF, k * 5 + 4, none⟩) := And.left (And.right (And.right (And.right (And.right (And.right (And.right (And.right he)))))))
      have d8 : (x 8) = d := And.left (And.right (And.right (And.right (And.right (And.right (And.right (And.right (And.right he))))))))
      have d9 : OwnI u wr.heap.size (x 9) f.defers := And.left (And.right (And.right (And.right (And.right (And.right (And.right (And.right (And.right (And.right he)))))))))
      have d10 : (x 10) = .pointer (some ⟨gF, k * 5, none⟩) := And.left (And.right (And.right (And.right (And.right (And.right (And.right (And.right (And.right (And.right (And.right he))))))))))
      have d11 : (x 11) = .pointer (some ⟨gF, k * 5 + 4, none⟩) := And.left (And.right (And.right (And.right (And.right (And.right (And.right (And.right (And.right (And.right (And.right (And.right he)))))))))))
      clear he
      obtain ⟨A9, c9, e9⟩ := own_form d9
      have q9 := cell_kp hg qg2 Q4.out
      have qf := ((Kp.cells hg).2 _ (k * 5 + 4) qg2).trans QF.out
      rw [e9] at d9
      have D9 := hid d9
      have HG := hid hg
      clear d9
      refine ⟨?_⟩
      simp only [putsFrom, Act.put, List.setIfInBounds_toArray, List.set_cons_zero, List.set_cons_succ, Nat.reduceAdd, d0, d1, d2, d3, d4, d5, d6, d7, d8, d10, d11, e9] at hK ⊢
      go_simp
      refine hK.out undef _ ⟨?_⟩
      clear hK
      clear d0 d1 d2 d3 d4 d5 d6 d7 d8 d10 d11
      clear e9 q9 qf
      have hstep := HMM.out.step HFF.out HG.out D9.out hwsz
      have hblkF : ∃ cs fr, u.heap[gF]? = some (.cells cs 44 fr) := by
        obtain ⟨a, b, h1, _⟩ := HMM.out.kp HG.out
        exact rowBlk h1
      obtain ⟨csF, frF, hbF⟩ := hblkF
      have htF := rowTouch (o := k * 5 + 4) hbF (.slice A9 f.defers.length c9)
      have HS1 := hid hstep
      have HS2 := hid ((HX1.out.kp HG.out).touch htF (by decide)); have HS3 := hid ((HX2.out.kp HG.out).touch htF (by decide))
      have HS4 := hid ((HKP.out.trans HG.out).setCell (p := ⟨gF, k * 5 + 4, none⟩) qg1 (.slice A9 f.defers.length c9))
      clear hstep hbF htF
      go_wp2
      go_roundw
      case rel => exact ⟨k + 1, hlt, by simp, HS1.out, HS2.out, HS3.out, HS4.out⟩
      case measure => simp [intOf]; omega
    · obtain rfl : k = m.frames.length := by omega
      have i1 : ¬ (m.frames.length : Int) < (m.frames.length : Int) := by omega
      have HFD := hid (HMM.out.done HO.out.fr)
      obtain ⟨c0, c1, _, _, _, _, cz⟩ := hb1.cells
      obtain ⟨newsP, hchP, _, hsrcP⟩ := RdL.src (HP.out.kp CePanic.kp hkp)
      have hchP2 := chunk_p hchP HO.out.pn
      have hc := clone_panics Ap m.panics.length cp wr newsP hchP.len hsrcP (Chunk.one_ ceP_one hchP2) (by omega)
      have HCP := hid hchP2
      clear hm hb1 hb2 hkp hchP hsrcP hchP2
      go_wp2_with fail
      refine hc.mono ?_; clear hc
      rintro e w5 ⟨⟨pv, rfl, hown⟩, hk5⟩
      obtain ⟨Aq, cq, rfl⟩ := own_form hown
      have HPN := hid (show PnRow w5 w.heap.size (.slice Aq m.panics.length cq) m.panics.reverse from ⟨newsP, by rw [List.reverse_reverse]; exact own_base hwsz hown, by rw [List.reverse_reverse]; exact Chunk.mono (w := wr) (w' := w5) (fun _ _ h => h) HCP.out⟩)
      have hb5 := HX1.out.kp hk5
      have hb6 := HX2.out.kp hk5
      obtain ⟨c0', c1', _, _, _, _, cz'⟩ := hb5.cells
      have ht5 := rowTouch (o := 1) hb5 (.slice Aq m.panics.length cq)
      have HY1 := hid (show StBox (w5.setCell ⟨w.heap.size, 1, none⟩ (.slice Aq m.panics.length cq)) w.heap.size (.slice Ag m.frames.length cg) (.slice Aq m.panics.length cq) m from blk_set hb5 _)
      have HY2 := hid (show StBox (w5.setCell ⟨w.heap.size, 1, none⟩ (.slice Aq m.panics.length cq)) (w.heap.size + 1) (.slice none 0 0) (.slice none 0 0) zSt from (blk_far (p := ⟨w.heap.size, 1, none⟩) (by show w.heap.size + 1 ≠ w.heap.size; omega) _).trans hb6)
      have HY3 := hid ((HFD.out.kp hk5).touch ht5 (by decide) (by decide))
      have HY4 := hid (HPN.out.touch ht5 (by decide))
      have HY5 := hid ((HKP.out.trans hk5).setCell (p := ⟨w.heap.size, 1, none⟩) (Nat.le_refl _) (.slice Aq m.panics.length cq))
      clear hown hk5 hb5 hb6 ht5 c0 c1 cz
      go_wp2
      clear c0' c1' cz'
      go_loopw [35] (fun i wr => ∃ k : Nat, k ≤ m.panics.length ∧ i = .int .i64 k ∧ FrRow wr w.heap.size (.slice Ag m.frames.length cg) m.frames.reverse ∧ PnRow wr w.heap.size (.slice Aq m.panics.length cq) m.panics.reverse ∧ StBox wr w.heap.size (.slice Ag m.frames.length cg) (.slice Aq m.panics.length cq) m ∧ StBox wr (w.heap.size + 1) (.slice none 0 0) (.slice none 0 0) zSt ∧ Kp w wr) (fun i _ => m.panics.length - (intOf i).toNat)
      case atStart => exact ⟨0, by omega, rfl, HY3.out, HY4.out, HY1.out, HY2.out, HY5.out⟩
      case round =>
        obtain ⟨k, hk, rfl, hfr, hpn, hb1, hb2, hkp⟩ := hrel
        have HFR := hid hfr; have HPR := hid hpn; have HX1 := hid hb1; have HX2 := hid hb2; have HKP := hid hkp
        by_cases hlt : k < m.panics.length
        · obtain ⟨q, hq⟩ : ∃ q, m.panics[k]? = some q := ⟨_, List.getElem?_eq_getElem hlt⟩
          have hqr : m.panics.reverse.reverse[k]? = some q := by rw [List.reverse_reverse]; exact hq
          have HQR := hid hqr
          have i1 : (k : Int) < (m.panics.length : Int) := by omega
          have i2 : (0 : Int) ≤ (k : Int) := by omega
          obtain ⟨gP, cP, Az, cz, e5, _, pg1, pg2, z0, z1, z2, z3, z4, _, _, zf, hqo, csP, hbP⟩ := hpn.at_ hqr
          rw [List.length_reverse] at e5
          injection e5 with e5 e6 e7
          subst e5; subst e7
          have Z1 := hid z1; have Z2 := hid z2; have Z3 := hid z3; have Z4 := hid z4; have ZF := hid zf; have HQO := hid hqo; have HBP := hid hbP
          clear hfr hpn hb1 hb2 hkp hq hqr z0 z1 z2 z3 z4 zf hqo hbP e6
          go_wp2
          refine wp_region_last 12 [[], [0], [], [], [3], [], [4, 5], [6], [7], [8], [1, 2], [10], [9, 11]] (fun u => Kp wr u)
            [fun (y : Value) (u : World) => y = (.pointer (some ⟨w.heap.size, 1, none⟩) : Value),
             fun (y : Value) (u : World) => y = (.slice (some ⟨gP, 0, none⟩) m.panics.length cq : Value),
             fun (y : Value) (u : World) => y = (.int .i64 (k : Int) : Value),
             fun (y : Value) (u : World) => y = (.pointer (some ⟨w.heap.size, 1, none⟩) : Value),
             fun (y : Value) (u : World) => y = (.slice (some ⟨gP, 0, none⟩) m.panics.length cq : Value),
             fun (y : Value) (u : World) => y = (.int .i64 (k : Int) : Value),
             fun (y : Value) (u : World) => y = (.pointer (some ⟨gP, k * 7, none⟩) : Value),
             fun (y : Value) (u : World) => y = (.pointer (some ⟨gP, k * 7 + 1, none⟩) : Value),
             fun (y : Value) (u : World) => y = (.agg #[.int .i64 q.val.k, .int .i64 q.val.n, .string q.val.s, .slice Az 0 cz] : Value),
             fun (y : Value) (u : World) => ∃ A' c', y = .agg #[.int .i64 q.val.k, .int .i64 q.val.n, .string q.val.s, .slice A' 0 c'],
             fun (y : Value) (u : World) => y = (.pointer (some ⟨gP, k * 7, none⟩) : Value),
             fun (y : Value) (u : World) => y = (.pointer (some ⟨gP, k * 7 + 1, none⟩) : Value)]
            (by kernel_rfl) (by kernel_rfl) (by kernel_rfl) (by kernel_rfl) (by kernel_rfl) (by kernel_rfl) ((Kp.refl _).drew) (fun _ _ hk h => h.trans hk) ⟨fun _ _ _ _ h => h, fun _ _ _ _ h => h, fun _ _ _ _ h => h, fun _ _ _ _ h => h, fun _ _ _ _ h => h, fun _ _ _ _ h => h, fun _ _ _ _ h => h, fun _ _ _ _ h => h, fun _ _ _ _ h => h, fun _ _ _ _ h => h, fun _ _ _ _ h => h, fun _ _ _ _ h => h, trivial⟩ ⟨?sc0, ?sc1, ?sc2, ?sc3, ?sc4, ?sc5, ?sc6, ?sc7, ?sc8, ?sc9, ?sc10, ?sc11, trivial⟩ ⟨?hEc, trivial⟩
          case sc0 =>
            intro x u hg hd K hK
            clear hd
            refine ⟨?_⟩
            simp only [putsFrom, Act.put, List.setIfInBounds_toArray, List.set_cons_zero, List.set_cons_succ, Nat.reduceAdd] at hK ⊢
            go_simp
            exact hK.out _ _ (Kp.refl _) rfl
          case sc1 =>
            intro x u hg hd K hK
            have d0 : (x 0) = .pointer (some ⟨w.heap.size, 1, none⟩) := And.left hd
            clear hd
            have q9 := (HX1.out.kp hg).cells.2.1
            refine ⟨?_⟩
            simp only [putsFrom, Act.put, List.setIfInBounds_toArray, List.set_cons_zero, List.set_cons_succ, Nat.reduceAdd, d0] at hK ⊢
            go_simp
            exact hK.out _ _ (Kp.refl _) rfl
          case sc2 =>
            intro x u hg hd K hK
            clear hd
            refine ⟨?_⟩
            simp only [putsFrom, Act.put, List.setIfInBounds_toArray, List.set_cons_zero, List.set_cons_succ, Nat.reduceAdd] at hK ⊢
            go_simp
            exact hK.out _ _ (Kp.refl _) rfl
          case sc3 =>
            intro x u hg hd K hK
            clear hd
            refine ⟨?_⟩
            simp only [putsFrom, Act.put, List.setIfInBounds_toArray, List.set_cons_zero, List.set_cons_succ, Nat.reduceAdd] at hK ⊢
            go_simp
            exact hK.out _ _ (Kp.refl _) rfl
          case sc4 =>
            intro x u hg hd K hK
            have d3 : (x 3) = .pointer (some ⟨w.heap.size, 1, none⟩) := And.left hd
            clear hd
            have q9 := (HX1.out.kp hg).cells.2.1
            refine ⟨?_⟩
            simp only [putsFrom, Act.put, List.setIfInBounds_toArray, List.set_cons_zero, List.set_cons_succ, Nat.reduceAdd, d3] at hK ⊢
            go_simp
            exact hK.out _ _ (Kp.refl _) rfl
          case sc5 =>
            intro x u hg hd K hK
            clear hd
            refine ⟨?_⟩
            simp only [putsFrom, Act.put, List.setIfInBounds_toArray, List.set_cons_zero, List.set_cons_succ, Nat.reduceAdd] at hK ⊢
            go_simp
            exact hK.out _ _ (Kp.refl _) rfl
          case sc6 =>
            intro x u hg hd K hK
            have d4 : (x 4) = .slice (some ⟨gP, 0, none⟩) m.panics.length cq := And.left hd
            have d5 : (x 5) = .int .i64 (k : Int) := And.left (And.right hd)
            clear hd
            refine ⟨?_⟩
            simp only [putsFrom, Act.put, List.setIfInBounds_toArray, List.set_cons_zero, List.set_cons_succ, Nat.reduceAdd, d4, d5] at hK ⊢
            go_simp
            exact hK.out _ _ (Kp.refl _) rfl
          case sc7 =>
            intro x u hg hd K hK
            have d6 : (x 6) = .pointer (some ⟨gP, k * 7, none⟩) := And.left hd
            clear hd
            refine ⟨?_⟩
            simp only [putsFrom, Act.put, List.setIfInBounds_toArray, List.set_cons_zero, List.set_cons_succ, Nat.reduceAdd, d6] at hK ⊢
            go_simp
            exact hK.out _ _ (Kp.refl _) rfl
          case sc8 =>
            intro x u hg hd K hK
            have d7 : (x 7) = .pointer (some ⟨gP, k * 7 + 1, none⟩) := And.left hd
            clear hd
            have z1 := cell_kp hg pg2 Z1.out
            have z2 := cell_kp hg pg2 Z2.out
            have z3 := cell_kp hg pg2 Z3.out
            have z4 := cell_kp hg pg2 Z4.out
            refine ⟨?_⟩
            simp only [putsFrom, Act.put, List.setIfInBounds_toArray, List.set_cons_zero, List.set_cons_succ, Nat.reduceAdd, d7] at hK ⊢
            go_simp
            exact hK.out _ _ (Kp.refl _) rfl
          case sc9 =>
            intro x u hg hd K hK
            have d8 : (x 8) = .agg #[.int .i64 q.val.k, .int .i64 q.val.n, .string q.val.s, .slice Az 0 cz] := And.left hd
            clear hd
            refine ⟨?_⟩
            simp only [putsFrom, Act.put, List.setIfInBounds_toArray, List.set_cons_zero, List.set_cons_succ, Nat.reduceAdd, d8] at hK ⊢
            go_simp
            go_at_call 58
            have hc := plain_any _ q.val u ⟨.slice Az 0 cz, rfl, by rw [HQO.out.2.2.2.2.1]; exact ⟨by simp, by simp, Az, cz, rfl, by simp, fun h => by simp at h⟩, HQO.out.2.1, HQO.out.2.2.1, HQO.out.2.2.2.1, by rw [HQO.out.2.2.2.2.1]; simp⟩
            refine hc.mono ?_
            clear hc
            rintro e u' ⟨⟨A', c', rfl, _⟩, hk⟩
            dsimp only
            exact hK.out _ _ hk ⟨A', c', by rw [HQO.out.2.2.2.2.2, HQO.out.2.2.2.2.1]; rfl⟩
          case sc10 =>
            intro x u hg hd K hK
            have d1 : (x 1) = .slice (some ⟨gP, 0, none⟩) m.panics.length cq := And.left hd
            have d2 : (x 2) = .int .i64 (k : Int) := And.left (And.right hd)
            clear hd
            refine ⟨?_⟩
            simp only [putsFrom, Act.put, List.setIfInBounds_toArray, List.set_cons_zero, List.set_cons_succ, Nat.reduceAdd, d1, d2] at hK ⊢
            go_simp
            exact hK.out _ _ (Kp.refl _) rfl
          case sc11 =>
            intro x u hg hd K hK
            have d10 : (x 10) = .pointer (some ⟨gP, k * 7, none⟩) := And.left hd
            clear hd
            refine ⟨?_⟩
            simp only [putsFrom, Act.put, List.setIfInBounds_toArray, List.set_cons_zero, List.set_cons_succ, Nat.reduceAdd, d10] at hK ⊢
            go_simp
            exact hK.out _ _ (Kp.refl _) rfl
          intro x u hg he K hK
          have d0 : (x 0) = .pointer (some ⟨w.heap.size, 1, none⟩) := And.left he
          have d1 : (x 1) = .slice (some ⟨gP, 0, none⟩) m.panics.length cq := And.left (And.right he)
          have d2 : (x 2) = .int .i64 (k : Int) := And.left (And.right (And.right he))
          have d3 : (x 3) = .pointer (some ⟨w.heap.size, 1, none⟩) := And.left (And.right (And.right (And.right he)))
          have d4 : (x 4) = .slice (some ⟨gP, 0, none⟩) m.panics.length cq := And.left (And.right (And.right (And.right (And.right he))))
          have d5 : (x 5) = .int .i64 (k : Int) := And.left (And.right (And.right (And.right (And.right (And.right he)))))
          have d6 : (x 6) = .pointer (some ⟨gP, k * 7, none⟩) := And.left (And.right (And.right (And.right (And.right (And.right (And.right he))))))
          have d7 : (x 7) = .pointer (some ⟨gP, k * 7 + 1, none⟩) := And.left (And.right (And.right (And.right (And.right (And.right (And.right (And.right he)))))))
          have d8 : (x 8) = .agg #[.int .i64 q.val.k, .int .i64 q.val.n, .string q.val.s, .slice Az 0 cz] := And.left (And.right (And.right (And.right (And.right (And.right (And.right (And.right (And.right he))))))))
          have d9 : ∃ A' c', (x 9) = .agg #[.int .i64 q.val.k, .int .i64 q.val.n, .string q.val.s, .slice A' 0 c'] := And.left (And.right (And.right (And.right (And.right (And.right (And.right (And.right (And.right (And.right he)))))))))
          have d10 : (x 10) = .pointer (some ⟨gP, k * 7, none⟩) := And.left (And.right (And.right (And.right (And.right (And.right (And.right (And.right (And.right (And.right (And.right he))))))))))
          have d11 : (x 11) = .pointer (some ⟨gP, k * 7 + 1, none⟩) := And.left (And.right (And.right (And.right (And.right (And.right (And.right (And.right (And.right (And.right (And.right (And.right he)))))))))))
          clear he
          obtain ⟨A9, c9, e9⟩ := d9
          have z1 := cell_kp hg pg2 Z1.out
          have z2 := cell_kp hg pg2 Z2.out
          have z3 := cell_kp hg pg2 Z3.out
          have z4 := cell_kp hg pg2 Z4.out
          have f1 := ((Kp.cells hg).2 _ (k * 7 + 1) pg2).trans (ZF.out _)
          have f2 := ((Kp.cells hg).2 _ (k * 7 + 2) pg2).trans (ZF.out _)
          have f3 := ((Kp.cells hg).2 _ (k * 7 + 3) pg2).trans (ZF.out _)
          have f4 := ((Kp.cells hg).2 _ (k * 7 + 4) pg2).trans (ZF.out _)
          have HG := hid hg
          refine ⟨?_⟩
          simp only [putsFrom, Act.put, List.setIfInBounds_toArray, List.set_cons_zero, List.set_cons_succ, Nat.reduceAdd, d0, d1, d2, d3, d4, d5, d6, d7, d8, d10, d11, e9] at hK ⊢
          go_simp
          refine hK.out undef _ ⟨?_⟩
          clear hK
          clear d0 d1 d2 d3 d4 d5 d6 d7 d8 d10 d11
          clear e9 z1 z2 z3 z4 f1 f2 f3 f4
          have hp1 := (HPR.out.kp HG.out).redo HQR.out 1 (by omega) (.int .i64 q.val.k) (fun A c => ⟨A, c, rfl⟩)
          have hp2 := hp1.redo HQR.out 2 (by omega) (.int .i64 q.val.n) (fun A c => ⟨A, c, rfl⟩)
          have hp3 := hp2.redo HQR.out 3 (by omega) (.string q.val.s) (fun A c => ⟨A, c, rfl⟩)
          have hp4 := hp3.redo HQR.out 4 (by omega) (.slice A9 0 c9) (fun A c => ⟨A9, c9, rfl⟩)
          have hbu : u.heap[gP]? = some (.cells csP 46 (0, 0)) := (HG.out.block gP pg2).trans HBP.out
          have ht := ((rowTouch (o := k * 7 + 1) hbu (.int .i64 q.val.k)).trans (rowTouch (o := k * 7 + 2) (blk_set (o := k * 7 + 1) hbu (.int .i64 q.val.k)) (.int .i64 q.val.n))).trans ((rowTouch (o := k * 7 + 3) (blk_set (o := k * 7 + 2) (blk_set (o := k * 7 + 1) hbu (.int .i64 q.val.k)) (.int .i64 q.val.n)) (.string q.val.s)).trans (rowTouch (o := k * 7 + 4) (blk_set (o := k * 7 + 3) (blk_set (o := k * 7 + 2) (blk_set (o := k * 7 + 1) hbu (.int .i64 q.val.k)) (.int .i64 q.val.n)) (.string q.val.s)) (.slice A9 0 c9)))
          have HS1 := hid hp4
          have HS0 := hid ((HFR.out.kp HG.out).touch ht (by decide) (by decide))
          have HS2 := hid ((HX1.out.kp HG.out).touch ht (by decide)); have HS3 := hid ((HX2.out.kp HG.out).touch ht (by decide))
          have HS4 := hid (((((HKP.out.trans HG.out).setCell (p := ⟨gP, k * 7 + 1, none⟩) pg1 (.int .i64 q.val.k)).setCell (p := ⟨gP, k * 7 + 2, none⟩) pg1 (.int .i64 q.val.n)).setCell (p := ⟨gP, k * 7 + 3, none⟩) pg1 (.string q.val.s)).setCell (p := ⟨gP, k * 7 + 4, none⟩) pg1 (.slice A9 0 c9))
          clear hp1 hp2 hp3 hp4 hbu ht
          go_wp2
          go_roundw
          case rel => exact ⟨k + 1, hlt, by simp, HS0.out, HS1.out, HS2.out, HS3.out, HS4.out⟩
          case measure => simp [intOf]; omega
        · obtain rfl : k = m.panics.length := by omega
          have i1 : ¬ (m.panics.length : Int) < (m.panics.length : Int) := by omega
          obtain ⟨a0, a1, a2, a3, a4, a5, _⟩ := hb1.cells
          obtain ⟨b0, b1, b2, b3, b4, b5, bf⟩ := hb2.cells
          have hres : StBox ((((((wr.setCell ⟨w.heap.size + 1, 0, none⟩ (.slice Ag m.frames.length cg)).setCell ⟨w.heap.size + 1, 1, none⟩ (.slice Aq m.panics.length cq)).setCell ⟨w.heap.size + 1, 2, none⟩ (.int .i64 m.next)).setCell ⟨w.heap.size + 1, 3, none⟩ (.int .i64 m.serial)).setCell ⟨w.heap.size + 1, 4, none⟩ (.int .i64 m.end_)).setCell ⟨w.heap.size + 1, 5, none⟩ (.int .i64 m.status)) (w.heap.size + 1) (.slice Ag m.frames.length cg) (.slice Aq m.panics.length cq) m := blk_set (blk_set (blk_set (blk_set (blk_set (blk_set hb2 _) _) _) _) _) _
          have ht : Touch 36 wr ((((((wr.setCell ⟨w.heap.size + 1, 0, none⟩ (.slice Ag m.frames.length cg)).setCell ⟨w.heap.size + 1, 1, none⟩ (.slice Aq m.panics.length cq)).setCell ⟨w.heap.size + 1, 2, none⟩ (.int .i64 m.next)).setCell ⟨w.heap.size + 1, 3, none⟩ (.int .i64 m.serial)).setCell ⟨w.heap.size + 1, 4, none⟩ (.int .i64 m.end_)).setCell ⟨w.heap.size + 1, 5, none⟩ (.int .i64 m.status)) :=
            (((((rowTouch hb2 _).trans (rowTouch (blk_set hb2 _) _)).trans (rowTouch (blk_set (blk_set hb2 _) _) _)).trans (rowTouch (blk_set (blk_set (blk_set hb2 _) _) _) _)).trans (rowTouch (blk_set (blk_set (blk_set (blk_set hb2 _) _) _) _) _)).trans (rowTouch (blk_set (blk_set (blk_set (blk_set (blk_set hb2 _) _) _) _) _) _)
          have hkk : Kp w ((((((wr.setCell ⟨w.heap.size + 1, 0, none⟩ (.slice Ag m.frames.length cg)).setCell ⟨w.heap.size + 1, 1, none⟩ (.slice Aq m.panics.length cq)).setCell ⟨w.heap.size + 1, 2, none⟩ (.int .i64 m.next)).setCell ⟨w.heap.size + 1, 3, none⟩ (.int .i64 m.serial)).setCell ⟨w.heap.size + 1, 4, none⟩ (.int .i64 m.end_)).setCell ⟨w.heap.size + 1, 5, none⟩ (.int .i64 m.status)) :=
            (((((hkp.setCell (p := ⟨w.heap.size + 1, 0, none⟩) (Nat.le_succ _) _).setCell (p := ⟨w.heap.size + 1, 1, none⟩) (Nat.le_succ _) _).setCell (p := ⟨w.heap.size + 1, 2, none⟩) (Nat.le_succ _) _).setCell (p := ⟨w.heap.size + 1, 3, none⟩) (Nat.le_succ _) _).setCell (p := ⟨w.heap.size + 1, 4, none⟩) (Nat.le_succ _) _).setCell (p := ⟨w.heap.size + 1, 5, none⟩) (Nat.le_succ _) _
          have HRES := hid hres
          have HST := hid (show StOwn _ w.heap.size (.slice Ag m.frames.length cg) (.slice Aq m.panics.length cq) (stM m) from ⟨HFR.out.touch ht (by decide) (by decide), HPR.out.touch ht (by decide), HN.out⟩)
          have HKK := hid hkk
          clear hfr hpn hb1 hb2 hkp hres ht hkk
          go_wp2
          clear a0 a1 a2 a3 a4 a5 b0 b1 b2 b3 b4 b5 bf
          generalize ((((((wr.setCell ⟨w.heap.size + 1, 0, none⟩ (.slice Ag m.frames.length cg)).setCell ⟨w.heap.size + 1, 1, none⟩ (.slice Aq m.panics.length cq)).setCell ⟨w.heap.size + 1, 2, none⟩ (.int .i64 m.next)).setCell ⟨w.heap.size + 1, 3, none⟩ (.int .i64 m.serial)).setCell ⟨w.heap.size + 1, 4, none⟩ (.int .i64 m.end_)).setCell ⟨w.heap.size + 1, 5, none⟩ (.int .i64 m.status)) = WE at HRES HST HKK ⊢
          obtain ⟨a0, a1, a2, a3, a4, a5, _⟩ := HRES.out.cells
          exact bodyPost_ret (v := .agg #[.slice Ag m.frames.length cg, .slice Aq m.panics.length cq, .int .i64 m.next, .int .i64 m.serial, .int .i64 m.end_, .int .i64 m.status]) (by simp [results, Try.results32, go_sem, a0, a1, a2, a3, a4, a5]) rfl ⟨⟨_, _, rfl, HST.out⟩, HKK.out⟩
end Go.Proofs.Ytiicdknmoakocaa
