/-
  Package panics: tell, over, top, last, begin. No condition but that what is told, and the numbers, stay small.
-/
import Derived.Test.YtiicdknmoakocaaPanP
import Derived.Test.YtiicdknmoakocaaRegionP
import Derived.Deep.QuietTactic
import Derived.BigQuiet
namespace Go.Proofs.Ytiicdknmoakocaa
open Go.RowKit
set_option linter.unusedVariables false
set_option linter.unusedSimpArgs false

theorem wp_appP {P : Program} {Q : Exit → Act → World → Prop} {o : Oper} {a : Act} {w0 : World} {t e : TypeId} {z v : Value} {size bytes base n : Nat} {xs : List Value} {K : Act → World → Prop} (E : El P t e z size bytes) (s x : Operand) (ho : o.op = .call { callee := .builtin .append, args := #[s, x], argTypes := #[t, t] })
    (hown : w0.ownsRow base e size v n xs) (hs : a.eval s = v) (news : List Value) (A : Option Addr) (m c : Nat) (hx : a.eval x = .slice A m c) (hl : news.length = m * size)
    (hcell : 0 < m → ∃ ad, A = some ad ∧ ∀ j u, news[j]? = some u → w0.cell? (ad.add j) = some u)
    (h1 : ∀ u ∈ news, u.oneCell' = true) (h63 : n + m ≤ maxLen) (hbytes : (n + m) * bytes ≤ 140737488355328) (hbase : base ≤ w0.heap.size)
    (h : ∀ v' w', w'.ownsRow base e size v' (n + m) (xs ++ news) → w0.grownBy w' v.ownBlock → Moved w0 v v' → Below base w0 w' → K (a.put o.dst v') w') :
    Oper.wp P o a w0 K Q := by
  obtain ⟨v', w', hrun, g1, g2, g3, g4⟩ := run_app E o.type hown news A m c hl hcell h1 h63 hbytes hbase
  unfold Oper.wp execOp
  simp only [ho, resolve, invoke, builtin, Sem.run_bind, Sem.run_pure, Result.andThen_ok, List.map_toArray, List.map_cons, List.map_nil, hs, hx, hrun]
  exact h v' w' g1 g2 g3 g4
/-- Blocks from B on are as they were. -/
def KpF (B : Nat) (a b : World) : Prop := ∀ (k : Nat) (o : Obj), B ≤ k → a.heap[k]? = some o → b.heap[k]? = some o
theorem KpF.of_kp {B : Nat} {a b : World} (h : Kp a b) : KpF B a b := fun k o _ ho => (h.block k (Array.getElem?_eq_some_iff.1 ho).1).trans ho
theorem KpF.of_grown {B : Nat} {a b : World} {row : Option Nat} (h : a.grownBy b row) (hr : ∀ g, row = some g → g < B) : KpF B a b := fun k o hk ho => (h.block k (Array.getElem?_eq_some_iff.1 ho).1 (fun e => by have := hr k e.symm; omega)).trans ho
theorem KpF.setCell {B g i : Nat} {a : World} (hg : g < B) (v : Value) : KpF B a (a.setCell ⟨g, i, none⟩ v) := fun k o hk ho => (blk_far (p := ⟨g, i, none⟩) (by show k ≠ g; omega) v).trans ho
/-- A literal row of one element that was just laid. -/
def LitAt (B : Nat) (T : TypeId) (cs : Array Value) (y : Value) (u : World) : Prop := ∃ b, y = .slice (some ⟨b, 0, none⟩) 1 1 ∧ B ≤ b ∧ u.heap[b]? = some (.cells cs T (0, 0))
theorem LitAt.keep {B : Nat} {T : TypeId} {cs : Array Value} {y : Value} {u u' : World} (h : LitAt B T cs y u) (hk : KpF B u u') : LitAt B T cs y u' := by
  obtain ⟨b, h1, h2, h3⟩ := h
  exact ⟨b, h1, h2, hk b _ h2 h3⟩
theorem lit_src {T : TypeId} {cs : Array Value} {b : Nat} {u : World} (h : u.heap[b]? = some (.cells cs T (0, 0))) : ∀ j x, cs.toList[j]? = some x → u.cell? ((⟨b, 0, none⟩ : Addr).add j) = some x := by
  intro j x hj
  have e : (⟨b, 0, none⟩ : Addr).add j = ⟨b, j, none⟩ := by unfold Addr.add; split <;> simp_all
  rw [e]
  exact blk_cell h (by rw [← Array.getElem?_toList]; exact hj)
def tellV (t : TellM) (A : Option Addr) (c : Nat) : Value := .agg #[.int .i64 t.kind, .int .i64 t.n, .int .i64 t.to, .int .i64 t.v.k, .int .i64 t.v.n, .string t.v.s, .slice A 0 c]
/-- Blocks of other types than these two are as they were. -/
def Touch2 (e1 e2 : TypeId) (w w' : World) : Prop := w.heap.size ≤ w'.heap.size ∧ ∀ (k : Nat) (o : Obj), w.heap[k]? = some o → (∀ cs fr, o ≠ Obj.cells cs e1 fr) → (∀ cs fr, o ≠ Obj.cells cs e2 fr) → w'.heap[k]? = some o
theorem Touch2.trans {e1 e2 : TypeId} {a b c : World} (h : Touch2 e1 e2 a b) (k : Touch2 e1 e2 b c) : Touch2 e1 e2 a c := ⟨Nat.le_trans h.1 k.1, fun i o h1 h2 h3 => k.2 i o (h.2 i o h1 h2 h3) h2 h3⟩
theorem Touch2.of1 {e1 e2 : TypeId} {a b : World} (h : Touch e1 a b) : Touch2 e1 e2 a b := ⟨h.1, fun i o h1 h2 _ => h.2 i o h1 h2⟩
theorem Touch2.of2 {e1 e2 : TypeId} {a b : World} (h : Touch e2 a b) : Touch2 e1 e2 a b := ⟨h.1, fun i o h1 _ h2 => h.2 i o h1 h2⟩
theorem Touch2.of_kp {e1 e2 : TypeId} {a b : World} (h : Kp a b) : Touch2 e1 e2 a b := .of1 (Touch.of_kp h)
set_option maxRecDepth 20000 in
set_option maxHeartbeats 1000000 in
theorem tell_at (w : World) (base pb : Nat) (S : PlM) (t : TellM) (A : Option Addr) (c : Nat) {fv pv tv : Value} (hp : Pl w base pb fv pv tv S) (ht : okT t) (hl : S.told.length ≤ 1000000000) : Calls Try.prog 60 #[.pointer (some ⟨pb, 0, none⟩), tellV t A c] w fun e w' => e = .returned (.tuple #[]) ∧ (∃ tv2, Pl w' base pb fv pv tv2 (S.tell t)) ∧ Below base w w' ∧ Touch2 131 82 w w' := by
  unfold tellV
  have hpb := hp.lt
  have hge := hp.ge
  have HT := hid ht
  have HP : Hid (Pl (w.alloc (.cells #[.int .i64 t.kind, .int .i64 t.n, .int .i64 t.to, .int .i64 t.v.k, .int .i64 t.v.n, .string t.v.s, .slice A 0 c] 131)) base pb fv pv tv S) := hid (hp.kp ((Kp.refl _).alloc _))
  have HB : Hid ((w.alloc (.cells #[.int .i64 t.kind, .int .i64 t.n, .int .i64 t.to, .int .i64 t.v.k, .int .i64 t.v.n, .string t.v.s, .slice A 0 c] 131)).heap[w.heap.size]? = some (.cells #[.int .i64 t.kind, .int .i64 t.n, .int .i64 t.to, .int .i64 t.v.k, .int .i64 t.v.n, .string t.v.s, .slice A 0 c] 131 (0, 0))) := hid (blk_new _ _)
  have HK : Hid (Kp w (w.alloc (.cells #[.int .i64 t.kind, .int .i64 t.n, .int .i64 t.to, .int .i64 t.v.k, .int .i64 t.v.n, .string t.v.s, .slice A 0 c] 131))) := hid ((Kp.refl _).alloc _)
  have hz : w.heap.size < (w.alloc (.cells #[.int .i64 t.kind, .int .i64 t.n, .int .i64 t.to, .int .i64 t.v.k, .int .i64 t.v.n, .string t.v.s, .slice A 0 c] 131)).heap.size := by simp
  obtain ⟨At, ct, rfl, _⟩ := hp.td.len
  clear hp ht
  go_enter Try.func60, Try.ntmps60
  go_wp2
  generalize (w.alloc (.cells #[.int .i64 t.kind, .int .i64 t.n, .int .i64 t.to, .int .i64 t.v.k, .int .i64 t.v.n, .string t.v.s, .slice A 0 c] 131)) = W1 at HP HB HK hz ⊢
  have hpb1 := HP.out.lt
  have BT := hid (show ∀ g, (Value.slice At S.told.length ct).ownBlock = some g → g < W1.heap.size by obtain ⟨xs, q, _⟩ := HP.out.td; exact fun g hg => (q.lt g hg).2)
  have B1 := hid (show S.told.length + 1 ≤ maxLen by unfold maxLen; omega)
  have B2 := hid (show (S.told.length + 1) * 80 ≤ 140737488355328 by omega)
  clear hl
  refine wp_region_phase [7, 10] [(0, 1), (0, 0), (0, 0), (0, 0), (0, 0), (0, 0), (0, 0), (0, 0), (0, 1), (0, 1), (0, 0)] (KpF W1.heap.size) [[], [], [1], [2], [3], [], [5], [4, 6], [0], [8], [7, 9]]
    (fun (p : Nat) (x : Nat → Value) (u : World) => match p with | 0 => Kp W1 u | 1 => Touch 131 W1 u ∧ TdRow u base (x 7) (S.told ++ [t]) ∧ Below base W1 u | _ => (∃ tv2, Pl u base pb fv pv tv2 (S.tell t)) ∧ Below base W1 u ∧ Touch2 131 82 W1 u)
    [fun (y : Value) (u : World) => y = (.pointer (some ⟨pb, 0, none⟩) : Value),
     fun (y : Value) (u : World) => y = (.pointer (some ⟨pb, 0, none⟩) : Value),
     fun (y : Value) (u : World) => y = (.pointer (some ⟨pb, 0, none⟩) : Value),
     fun (y : Value) (u : World) => y = (.pointer (some ⟨pb, 6, none⟩) : Value),
     fun (y : Value) (u : World) => y = (.slice At S.told.length ct : Value),
     fun (y : Value) (u : World) => y = (.agg #[.int .i64 t.kind, .int .i64 t.n, .int .i64 t.to, .int .i64 t.v.k, .int .i64 t.v.n, .string t.v.s, .slice A 0 c] : Value),
     fun (y : Value) (u : World) => LitAt W1.heap.size 131 #[.int .i64 t.kind, .int .i64 t.n, .int .i64 t.to, .int .i64 t.v.k, .int .i64 t.v.n, .string t.v.s, .slice A 0 c] y u,
     fun (y : Value) (u : World) => True,
     fun (y : Value) (u : World) => y = (.pointer (some ⟨pb, 0, none⟩) : Value),
     fun (y : Value) (u : World) => y = (.pointer (some ⟨pb, 6, none⟩) : Value),
     fun (y : Value) (u : World) => True]
    (by kernel_rfl) (by kernel_rfl) (by kernel_rfl) (by kernel_rfl) (by kernel_rfl) (by kernel_rfl) (fun _ _ hk => KpF.of_kp hk) ((Kp.refl _).drew) ?hKb ?hXb ⟨fun _ _ _ _ h => h, fun _ _ _ _ h => h, fun _ _ _ _ h => h, fun _ _ _ _ h => h, fun _ _ _ _ h => h, fun _ _ _ _ h => h, fun _ _ _ hk h => h.keep hk, fun _ _ _ _ _ => trivial, fun _ _ _ _ h => h, fun _ _ _ _ h => h, fun _ _ _ _ _ => trivial, trivial⟩ ⟨?sb0, ?sb1, ?sb2, ?sb3, ?sb4, ?sb5, ?sb6, ?sb7, ?sb8, ?sb9, ?sb10, trivial⟩ ?hEb
  case hKb =>
    intro p x w w' hk h
    rcases p with _ | _ | p
    · exact h.trans hk
    · exact ⟨h.1.trans (Touch.of_kp hk), h.2.1.kp hk, Below.trans h.2.2 (Below.mono hk (Nat.le_trans (by omega) h.2.2.size))⟩
    · exact ⟨by obtain ⟨tv2, h1⟩ := h.1; exact ⟨tv2, h1.kp hk⟩, Below.trans h.2.1 (Below.mono hk (Nat.le_trans (by omega) h.2.1.size)), h.2.2.trans (Touch2.of_kp hk)⟩
  case hXb =>
    intro p x i v w hi h
    have e0 : upd x i v 7 = x 7 := if_neg (fun hh => hi (by rw [← hh]; decide))
    have e1 : upd x i v 10 = x 10 := if_neg (fun hh => hi (by rw [← hh]; decide))
    rcases p with _ | _ | p
    · first | exact h | (simp only [e0, e1]; exact h)
    · first | exact h | (simp only [e0, e1]; exact h)
    · first | exact h | (simp only [e0, e1]; exact h)
  case sb0 =>
    refine OpStepQ.off 0 1 (by kernel_rfl) (by kernel_rfl) ?_
    intro x u p hp hg hd K hK
    clear hd
    refine ⟨?_⟩
    simp only [putsFrom, Act.put, List.setIfInBounds_toArray, List.set_cons_zero, List.set_cons_succ, Nat.reduceAdd] at hK ⊢
    go_simp
    exact hK.out _ _ (Kp.refl _) rfl
  case sb1 =>
    refine OpStepQ.off 0 0 (by kernel_rfl) (by kernel_rfl) ?_
    intro x u p hp hg hd K hK
    obtain rfl : p = 0 := by omega
    change Kp W1 u at hg
    clear hd
    refine ⟨?_⟩
    simp only [putsFrom, Act.put, List.setIfInBounds_toArray, List.set_cons_zero, List.set_cons_succ, Nat.reduceAdd] at hK ⊢
    go_simp
    exact hK.out _ _ (Kp.refl _) rfl
  case sb2 =>
    refine OpStepQ.off 0 0 (by kernel_rfl) (by kernel_rfl) ?_
    intro x u p hp hg hd K hK
    obtain rfl : p = 0 := by omega
    change Kp W1 u at hg
    have d1 : (x 1) = .pointer (some ⟨pb, 0, none⟩) := And.left hd
    clear hd
    refine ⟨?_⟩
    simp only [putsFrom, Act.put, List.setIfInBounds_toArray, List.set_cons_zero, List.set_cons_succ, Nat.reduceAdd, d1] at hK ⊢
    go_simp
    exact hK.out _ _ (Kp.refl _) rfl
  case sb3 =>
    refine OpStepQ.off 0 0 (by kernel_rfl) (by kernel_rfl) ?_
    intro x u p hp hg hd K hK
    obtain rfl : p = 0 := by omega
    change Kp W1 u at hg
    have d2 : (x 2) = .pointer (some ⟨pb, 0, none⟩) := And.left hd
    clear hd
    refine ⟨?_⟩
    simp only [putsFrom, Act.put, List.setIfInBounds_toArray, List.set_cons_zero, List.set_cons_succ, Nat.reduceAdd, d2] at hK ⊢
    go_simp
    exact hK.out _ _ (Kp.refl _) rfl
  case sb4 =>
    refine OpStepQ.off 0 0 (by kernel_rfl) (by kernel_rfl) ?_
    intro x u p hp hg hd K hK
    obtain rfl : p = 0 := by omega
    change Kp W1 u at hg
    have d3 : (x 3) = .pointer (some ⟨pb, 6, none⟩) := And.left hd
    clear hd
    have q := (HP.out.kp hg).c6
    refine ⟨?_⟩
    simp only [putsFrom, Act.put, List.setIfInBounds_toArray, List.set_cons_zero, List.set_cons_succ, Nat.reduceAdd, d3] at hK ⊢
    go_simp
    exact hK.out _ _ (Kp.refl _) rfl
  case sb5 =>
    refine OpStepQ.off 0 0 (by kernel_rfl) (by kernel_rfl) ?_
    intro x u p hp hg hd K hK
    obtain rfl : p = 0 := by omega
    change Kp W1 u at hg
    clear hd
    have hb := (hg.block _ hz).trans HB.out
    have q0 := blk_cell (o := 0) (v := .int .i64 t.kind) hb rfl
    have q1 := blk_cell (o := 1) (v := .int .i64 t.n) hb rfl
    have q2 := blk_cell (o := 2) (v := .int .i64 t.to) hb rfl
    have q3 := blk_cell (o := 3) (v := .int .i64 t.v.k) hb rfl
    have q4 := blk_cell (o := 4) (v := .int .i64 t.v.n) hb rfl
    have q5 := blk_cell (o := 5) (v := .string t.v.s) hb rfl
    have q6 := blk_cell (o := 6) (v := .slice A 0 c) hb rfl
    clear hb
    refine ⟨?_⟩
    simp only [putsFrom, Act.put, List.setIfInBounds_toArray, List.set_cons_zero, List.set_cons_succ, Nat.reduceAdd] at hK ⊢
    go_simp
    exact hK.out _ _ (Kp.refl _) rfl
  case sb6 =>
    refine OpStepQ.off 0 0 (by kernel_rfl) (by kernel_rfl) ?_
    intro x u p hp hg hd K hK
    obtain rfl : p = 0 := by omega
    change Kp W1 u at hg
    have d5 : (x 5) = .agg #[.int .i64 t.kind, .int .i64 t.n, .int .i64 t.to, .int .i64 t.v.k, .int .i64 t.v.n, .string t.v.s, .slice A 0 c] := And.left hd
    clear hd
    refine ⟨?_⟩
    simp only [putsFrom, Act.put, List.setIfInBounds_toArray, List.set_cons_zero, List.set_cons_succ, Nat.reduceAdd, d5] at hK ⊢
    go_simp
    exact hK.out _ _ ((Kp.refl _).alloc _) ⟨_, rfl, hg.le, blk_new _ _⟩
  case sb7 =>
    refine OpStepQ.on 0 (by kernel_rfl) (by kernel_rfl) ?_
    intro x u hg hd K hK
    change Kp W1 u at hg
    have d4 : (x 4) = .slice At S.told.length ct := And.left hd
    have d6 : LitAt W1.heap.size 131 #[.int .i64 t.kind, .int .i64 t.n, .int .i64 t.to, .int .i64 t.v.k, .int .i64 t.v.n, .string t.v.s, .slice A 0 c] (x 6) u := And.left (And.right hd)
    clear hd
    obtain ⟨b, e6, hb6, hlit⟩ := d6
    obtain ⟨xs, hown, hch⟩ := (HP.out.kp hg).td
    refine ⟨?_⟩
    simp only [putsFrom, Act.put, List.setIfInBounds_toArray, List.set_cons_zero, List.set_cons_succ, Nat.reduceAdd, d4, e6] at hK ⊢
    rw [if_pos (by simp [Region.wanted])]
    refine wp_appP elTell (.tmp 8) (.tmp 10) (by rfl) hown (by rfl) [.int .i64 t.kind, .int .i64 t.n, .int .i64 t.to, .int .i64 t.v.k, .int .i64 t.v.n, .string t.v.s, .slice A 0 c] _ 1 1 (by rfl) rfl (fun _ => ⟨_, rfl, lit_src hlit⟩) (by intro z hz; simp at hz; rcases hz with rfl | rfl | rfl | rfl | rfl | rfl | rfl <;> rfl) B1.out B2.out (Nat.le_trans (by omega) hg.le) ?_
    intro v' w' G1 G2 G3 G4
    exact hK.out v' w' (KpF.of_grown G2 BT.out) ⟨(Touch.of_kp hg).trans (Touch.of_grown hown G2), TdRow.push hch rfl G1 HT.out, Below.trans (Below.mono hg (by omega)) G4⟩ trivial
  case sb8 =>
    refine OpStepQ.off 0 1 (by kernel_rfl) (by kernel_rfl) ?_
    intro x u p hp hg hd K hK
    have d0 : (x 0) = .pointer (some ⟨pb, 0, none⟩) := And.left hd
    clear hd
    refine ⟨?_⟩
    simp only [putsFrom, Act.put, List.setIfInBounds_toArray, List.set_cons_zero, List.set_cons_succ, Nat.reduceAdd, d0] at hK ⊢
    go_simp
    exact hK.out _ _ (Kp.refl _) rfl
  case sb9 =>
    refine OpStepQ.off 0 1 (by kernel_rfl) (by kernel_rfl) ?_
    intro x u p hp hg hd K hK
    have d8 : (x 8) = .pointer (some ⟨pb, 0, none⟩) := And.left hd
    clear hd
    refine ⟨?_⟩
    simp only [putsFrom, Act.put, List.setIfInBounds_toArray, List.set_cons_zero, List.set_cons_succ, Nat.reduceAdd, d8] at hK ⊢
    go_simp
    exact hK.out _ _ (Kp.refl _) rfl
  case sb10 =>
    refine OpStepQ.on 1 (by kernel_rfl) (by kernel_rfl) ?_
    intro x u hg hd K hK
    change Touch 131 W1 u ∧ TdRow u base (x 7) (S.told ++ [t]) ∧ Below base W1 u at hg
    have d9 : (x 9) = .pointer (some ⟨pb, 6, none⟩) := And.left (And.right hd)
    clear hd
    obtain ⟨hg1, hg2, hg3⟩ := hg
    obtain ⟨A7, c7, e7, _⟩ := hg2.len
    rw [show (S.told ++ [t]).length = S.told.length + 1 by simp] at e7
    have hb := HP.out.blkT hg1 (by decide)
    have q := blk_cell (o := 6) (v := .slice At S.told.length ct) hb rfl
    have qf := blk_free (o := 6) hb
    have HE := hid (HP.out.told_ hg1 hg2)
    have HTT := hid ((Touch2.of1 hg1).trans (Touch2.of2 (e1 := 131) (rowTouch (o := 6) hb (x 7))))
    have HG3 := hid hg3
    have e7' := hid e7
    clear hb hg1 hg2 hg3
    refine ⟨?_⟩
    simp only [putsFrom, Act.put, List.setIfInBounds_toArray, List.set_cons_zero, List.set_cons_succ, Nat.reduceAdd, d9, e7] at hK ⊢
    go_simp
    rw [e7'.out] at HE HTT
    exact hK.out undef _ (KpF.setCell hpb1 _) ⟨⟨_, HE.out⟩, HG3.out.setCell hge _, HTT.out⟩ trivial
  intro x u hg he
  have d0 : (x 0) = .pointer (some ⟨pb, 0, none⟩) := And.left he
  have d1 : (x 1) = .pointer (some ⟨pb, 0, none⟩) := And.left (And.right he)
  have d2 : (x 2) = .pointer (some ⟨pb, 0, none⟩) := And.left (And.right (And.right he))
  have d3 : (x 3) = .pointer (some ⟨pb, 6, none⟩) := And.left (And.right (And.right (And.right he)))
  have d4 : (x 4) = .slice At S.told.length ct := And.left (And.right (And.right (And.right (And.right he))))
  have d5 : (x 5) = .agg #[.int .i64 t.kind, .int .i64 t.n, .int .i64 t.to, .int .i64 t.v.k, .int .i64 t.v.n, .string t.v.s, .slice A 0 c] := And.left (And.right (And.right (And.right (And.right (And.right he)))))
  have d6 : LitAt W1.heap.size 131 #[.int .i64 t.kind, .int .i64 t.n, .int .i64 t.to, .int .i64 t.v.k, .int .i64 t.v.n, .string t.v.s, .slice A 0 c] (x 6) u := And.left (And.right (And.right (And.right (And.right (And.right (And.right he))))))
  have d8 : (x 8) = .pointer (some ⟨pb, 0, none⟩) := And.left (And.right (And.right (And.right (And.right (And.right (And.right (And.right (And.right he))))))))
  have d9 : (x 9) = .pointer (some ⟨pb, 6, none⟩) := And.left (And.right (And.right (And.right (And.right (And.right (And.right (And.right (And.right (And.right he)))))))))
  clear he
  change (∃ tv2, Pl u base pb fv pv tv2 (S.tell t)) ∧ Below base W1 u ∧ Touch2 131 82 W1 u at hg
  refine ⟨?_⟩
  simp only [putsFrom, Act.put, List.setIfInBounds_toArray, List.set_cons_zero, List.set_cons_succ, Nat.reduceAdd, d0, d1, d2, d3, d4, d5, d8, d9]
  clear d0 d1 d2 d3 d4 d5 d8 d9
  have HG := hid hg
  go_wp2
  go_end0
  exact ⟨rfl, HG.out.1, Below.trans (Below.mono HK.out (by omega)) HG.out.2.1, (Touch2.of_kp HK.out).trans HG.out.2.2⟩
theorem tell_any (w : World) (base pb : Nat) (S : PlM) (t : TellM) (A : Option Addr) (c : Nat) (h : Player w base pb S) (ht : okT t) (hl : S.told.length ≤ 1000000000) : Calls Try.prog 60 #[.pointer (some ⟨pb, 0, none⟩), tellV t A c] w fun e w' => e = .returned (.tuple #[]) ∧ Player w' base pb (S.tell t) ∧ Below base w w' := by
  obtain ⟨fv, pv, tv, hp⟩ := h
  exact (tell_at w base pb S t A c hp ht hl).mono fun e w' ⟨h1, ⟨tv2, h2⟩, h3, _⟩ => ⟨h1, ⟨_, _, _, h2⟩, h3⟩
theorem ok_small {x : Int} (h0 : -1000 ≤ x) (h : x ≤ 1000000000000) : okI x := by unfold okI; omega
theorem okT_nums {a b c : Int} (ha : okI a) (hb : okI b) (hc : okI c) : okT ⟨a, b, c, zV⟩ := ⟨ha, hb, hc, ok0, ok0, by show (⟨#[]⟩ : ByteArray).size ≤ _; decide, rfl⟩
set_option maxHeartbeats 1000000 in
theorem over_any (w : World) (base pb : Nat) (S : PlM) (e s : Int) (h : Player w base pb S) (he : okI e) (hs : okI s) (hl : S.told.length ≤ 1000000000) : Calls Try.prog 65 #[.pointer (some ⟨pb, 0, none⟩), .int .i64 e, .int .i64 s] w fun e' w' => e' = .returned (.tuple #[]) ∧ Player w' base pb (S.over e s) ∧ Below base w w' := by
  obtain ⟨fv, pv, tv, hp⟩ := h
  have c4 := hp.c4; have c5 := hp.c5; have f := hp.fz
  have hge := hp.ge
  have H2 := hid ((hp.en_ he).stat_ hs)
  have HB := hid (show Below base w ((w.setCell ⟨pb, 4, none⟩ (.int .i64 e)).setCell ⟨pb, 5, none⟩ (.int .i64 s)) from ((Below.refl _ _).setCell hge _).setCell hge _)
  have HT := hid (okT_nums (a := 7) (c := 0) (ok_small (by omega) (by omega)) he (ok_small (by omega) (by omega)))
  clear hp he hs
  go_enter Try.func65, Try.ntmps65
  go_wp2_with fail
  have hc := tell_any _ base pb { S with en := e, stat := s } ⟨7, e, 0, zV⟩ none 0 ⟨_, _, _, H2.out⟩ HT.out hl
  refine hc.mono ?_; clear hc
  rintro e' w2 ⟨rfl, hp2, hb2⟩
  go_wp2
  go_end0
  exact ⟨rfl, hp2, Below.trans HB.out hb2⟩
set_option maxRecDepth 20000 in
set_option maxHeartbeats 1000000 in
theorem top_at (w : World) (pb g n c : Nat) (c0 : w.cell? ⟨pb, 0, none⟩ = some (.slice (some ⟨g, 0, none⟩) (n + 1) c)) (hn : n ≤ 1000) : Calls Try.prog 61 #[.pointer (some ⟨pb, 0, none⟩)] w fun e w' => e = .returned (.pointer (some ⟨g, n * 5, none⟩)) ∧ ∃ q, w' = w.drewN q := by
  have w1 : IntKind.i64.wrap ((n : Int) + 1 - 1) = (n : Int) := by rw [IntWalk.i64_in _ (by omega)]; omega
  have w2 : (n : Int) < (n : Int) + 1 := by omega
  have w3 : (0 : Int) ≤ (n : Int) := by omega
  go_enter Try.func61, Try.ntmps61
  go_wp2
  go_quiet (fail)
  clear w1 w2 w3
  go_wp2
  go_ret
  exact ⟨rfl, _, rfl⟩
set_option maxHeartbeats 1000000 in
theorem last_none (w : World) (pb c : Nat) (A : Option Addr) (c1 : w.cell? ⟨pb, 1, none⟩ = some (.slice A 0 c)) : Calls Try.prog 96 #[.pointer (some ⟨pb, 0, none⟩)] w fun e w' => e = .returned (.pointer none) ∧ ∃ q, w' = w.drewN q := by
  go_enter Try.func96, Try.ntmps96
  go_wp2
  go_ret
  exact ⟨rfl, 0, rfl⟩
set_option maxRecDepth 20000 in
set_option maxHeartbeats 1000000 in
theorem last_at (w : World) (pb g n c : Nat) (c1 : w.cell? ⟨pb, 1, none⟩ = some (.slice (some ⟨g, 0, none⟩) (n + 1) c)) (hn : n ≤ 1000000000) : Calls Try.prog 96 #[.pointer (some ⟨pb, 0, none⟩)] w fun e w' => e = .returned (.pointer (some ⟨g, n * 7, none⟩)) ∧ ∃ q, w' = w.drewN q := by
  have w0 : ((n : Int) + 1 == 0) = false := by simp; omega
  have w1 : IntKind.i64.wrap ((n : Int) + 1 - 1) = (n : Int) := by rw [IntWalk.i64_in _ (by omega)]; omega
  have w2 : (n : Int) < (n : Int) + 1 := by omega
  have w3 : (0 : Int) ≤ (n : Int) := by omega
  go_enter Try.func96, Try.ntmps96
  go_wp2
  go_quiet (fail)
  clear w1 w2 w3 w0
  go_wp2
  go_ret
  exact ⟨rfl, _, rfl⟩
set_option maxHeartbeats 1000000 in
theorem begin_full (w : World) (base pb : Nat) (S : PlM) (mark ser : Int) (h : Player w base pb S) (hl : S.told.length ≤ 1000000000) (hf : S.fr.length = 30) : Calls Try.prog 59 #[.pointer (some ⟨pb, 0, none⟩), .int .i64 mark, .int .i64 ser] w fun e' w' => e' = .returned (.bool false) ∧ Player w' base pb (S.over 6 0) ∧ Below base w w' := by
  have H := hid h
  obtain ⟨fv, pv, tv, hp⟩ := h
  obtain ⟨A, c, rfl, _⟩ := hp.fr.len
  have c0 := hp.c0
  rw [hf] at c0
  clear hp hf
  go_enter Try.func59, Try.ntmps59
  go_wp2_with fail
  have hc := over_any w base pb S 6 0 H.out (ok_small (by omega) (by omega)) ok0 hl
  refine hc.mono ?_; clear hc
  rintro e' w2 ⟨rfl, hp2, hb2⟩
  have HP := hid hp2; have HB := hid hb2
  clear hp2 hb2
  go_wp2
  go_ret
  exact ⟨rfl, HP.out, HB.out⟩
theorem frCells_one (f : FrameM) : ∀ z ∈ frCells f (.slice none 0 0), z.oneCell' = true := by
  intro z hz
  simp only [frCells, List.mem_cons, List.not_mem_nil, or_false] at hz
  rcases hz with rfl | rfl | rfl | rfl | rfl <;> rfl
set_option maxRecDepth 20000 in
set_option maxHeartbeats 1000000 in
theorem begin_any (w : World) (base pb : Nat) (S : PlM) (mark ser : Int) {fv pv tv : Value} {L : List (FrameM × Value)} (hp : Pl w base pb fv pv tv S) (hx : FrX w base fv L S.fr) (hf : S.fr.length < 30) (hm : okI mark) (hs : okI ser) (hn : 0 ≤ S.next) (hn2 : S.next ≤ 1000000000) : Calls Try.prog 59 #[.pointer (some ⟨pb, 0, none⟩), .int .i64 mark, .int .i64 ser] w fun e' w' => e' = .returned (.bool true) ∧ (∃ fv2, Pl w' base pb fv2 pv tv (S.grow mark ser) ∧ FrX w' base fv2 (L ++ [(⟨S.next, mark, ser, 0, []⟩, .slice none 0 0)]) (⟨S.next, mark, ser, 0, []⟩ :: S.fr)) ∧ Below base w w' := by
  have hpb := hp.lt
  have hge := hp.ge
  obtain ⟨A, c, rfl, _⟩ := hp.fr.len
  have c0 := hp.c0
  have t0 : ((S.fr.length : Int) == 30) = false := by simp; omega
  have HP := hid hp
  have HX := hid hx
  have BF := hid (show ∀ g, (Value.slice A S.fr.length c).ownBlock = some g → g < w.heap.size by obtain ⟨L, q, _⟩ := hp.fr; exact fun g hg => (q.lt g hg).2)
  have B1 := hid (show S.fr.length + 1 ≤ maxLen by unfold maxLen; omega)
  have B2 := hid (show (S.fr.length + 1) * 56 ≤ 140737488355328 by omega)
  have HOK := hid (show okF ⟨S.next, mark, ser, 0, []⟩ from ⟨hp.ok.1, hm, hs, ok0, fun d hd => by simp at hd, by simp⟩)
  have HN := hid (show okI (S.next + 1) from ok_small (by omega) (by omega))
  clear hp hf hm hs hx
  go_enter Try.func59, Try.ntmps59
  go_wp2
  refine wp_region_phase [15, 19] [(0, 1), (0, 0), (0, 0), (0, 0), (0, 0), (0, 0), (0, 0), (0, 0), (0, 0), (0, 0), (0, 0), (0, 0), (0, 0), (0, 0), (0, 0), (0, 0), (0, 1), (0, 1), (0, 1), (0, 0)] (KpF w.heap.size) [[], [], [1], [2], [3], [4], [], [6], [7], [8], [9], [], [], [10, 11, 12], [13], [5, 14], [0], [16], [17], [15, 18]]
    (fun (p : Nat) (x : Nat → Value) (u : World) => match p with | 0 => Kp w u | 1 => Touch 44 w u ∧ FrX u base (x 15) (L ++ [(⟨S.next, mark, ser, 0, []⟩, .slice none 0 0)]) (⟨S.next, mark, ser, 0, []⟩ :: S.fr) ∧ Below base w u | _ => (∃ fv2, Pl u base pb fv2 pv tv { S with fr := ⟨S.next, mark, ser, 0, []⟩ :: S.fr } ∧ FrX u base fv2 (L ++ [(⟨S.next, mark, ser, 0, []⟩, .slice none 0 0)]) (⟨S.next, mark, ser, 0, []⟩ :: S.fr)) ∧ Below base w u)
    [fun (y : Value) (u : World) => y = (.pointer (some ⟨pb, 0, none⟩) : Value),
     fun (y : Value) (u : World) => y = (.pointer (some ⟨pb, 0, none⟩) : Value),
     fun (y : Value) (u : World) => y = (.pointer (some ⟨pb, 0, none⟩) : Value),
     fun (y : Value) (u : World) => y = (.pointer (some ⟨pb, 0, none⟩) : Value),
     fun (y : Value) (u : World) => y = (.pointer (some ⟨pb, 0, none⟩) : Value),
     fun (y : Value) (u : World) => y = (.slice A S.fr.length c : Value),
     fun (y : Value) (u : World) => y = (.pointer (some ⟨pb, 0, none⟩) : Value),
     fun (y : Value) (u : World) => y = (.pointer (some ⟨pb, 0, none⟩) : Value),
     fun (y : Value) (u : World) => y = (.pointer (some ⟨pb, 0, none⟩) : Value),
     fun (y : Value) (u : World) => y = (.pointer (some ⟨pb, 2, none⟩) : Value),
     fun (y : Value) (u : World) => y = (.int .i64 S.next : Value),
     fun (y : Value) (u : World) => y = (.int .i64 mark : Value),
     fun (y : Value) (u : World) => y = (.int .i64 ser : Value),
     fun (y : Value) (u : World) => y = (.agg #[.int .i64 S.next, .int .i64 mark, .int .i64 ser, .int .i64 0, .slice none 0 0] : Value),
     fun (y : Value) (u : World) => LitAt w.heap.size 44 #[.int .i64 S.next, .int .i64 mark, .int .i64 ser, .int .i64 0, .slice none 0 0] y u,
     fun (y : Value) (u : World) => True,
     fun (y : Value) (u : World) => y = (.pointer (some ⟨pb, 0, none⟩) : Value),
     fun (y : Value) (u : World) => y = (.pointer (some ⟨pb, 0, none⟩) : Value),
     fun (y : Value) (u : World) => y = (.pointer (some ⟨pb, 0, none⟩) : Value),
     fun (y : Value) (u : World) => True]
    (by kernel_rfl) (by kernel_rfl) (by kernel_rfl) (by kernel_rfl) (by kernel_rfl) (by kernel_rfl) (fun _ _ hk => KpF.of_kp hk) ((Kp.refl _).drew) ?hKc ?hXc ⟨fun _ _ _ _ h => h, fun _ _ _ _ h => h, fun _ _ _ _ h => h, fun _ _ _ _ h => h, fun _ _ _ _ h => h, fun _ _ _ _ h => h, fun _ _ _ _ h => h, fun _ _ _ _ h => h, fun _ _ _ _ h => h, fun _ _ _ _ h => h, fun _ _ _ _ h => h, fun _ _ _ _ h => h, fun _ _ _ _ h => h, fun _ _ _ _ h => h, fun _ _ _ hk h => h.keep hk, fun _ _ _ _ _ => trivial, fun _ _ _ _ h => h, fun _ _ _ _ h => h, fun _ _ _ _ h => h, fun _ _ _ _ _ => trivial, trivial⟩ ⟨?sc0, ?sc1, ?sc2, ?sc3, ?sc4, ?sc5, ?sc6, ?sc7, ?sc8, ?sc9, ?sc10, ?sc11, ?sc12, ?sc13, ?sc14, ?sc15, ?sc16, ?sc17, ?sc18, ?sc19, trivial⟩ ?hEc
  case hKc =>
    intro p x w w' hk h
    rcases p with _ | _ | p
    · exact h.trans hk
    · exact ⟨h.1.trans (Touch.of_kp hk), FrX.kp h.2.1 hk, Below.trans h.2.2 (Below.mono hk (Nat.le_trans (by omega) h.2.2.size))⟩
    · exact ⟨by obtain ⟨fv2, h1, h2⟩ := h.1; exact ⟨fv2, h1.kp hk, FrX.kp h2 hk⟩, Below.trans h.2 (Below.mono hk (Nat.le_trans (by omega) h.2.size))⟩
  case hXc =>
    intro p x i v w hi h
    have e0 : upd x i v 15 = x 15 := if_neg (fun hh => hi (by rw [← hh]; decide))
    have e1 : upd x i v 19 = x 19 := if_neg (fun hh => hi (by rw [← hh]; decide))
    rcases p with _ | _ | p
    · first | exact h | (simp only [e0, e1]; exact h)
    · first | exact h | (simp only [e0, e1]; exact h)
    · first | exact h | (simp only [e0, e1]; exact h)
  case sc0 =>
    refine OpStepQ.off 0 1 (by kernel_rfl) (by kernel_rfl) ?_
    intro x u p hp hg hd K hK
    clear hd
    refine ⟨?_⟩
    simp only [putsFrom, Act.put, List.setIfInBounds_toArray, List.set_cons_zero, List.set_cons_succ, Nat.reduceAdd] at hK ⊢
    go_simp
    exact hK.out _ _ (Kp.refl _) rfl
  case sc1 =>
    refine OpStepQ.off 0 0 (by kernel_rfl) (by kernel_rfl) ?_
    intro x u p hp hg hd K hK
    obtain rfl : p = 0 := by omega
    change Kp w u at hg
    clear hd
    refine ⟨?_⟩
    simp only [putsFrom, Act.put, List.setIfInBounds_toArray, List.set_cons_zero, List.set_cons_succ, Nat.reduceAdd] at hK ⊢
    go_simp
    exact hK.out _ _ (Kp.refl _) rfl
  case sc2 =>
    refine OpStepQ.off 0 0 (by kernel_rfl) (by kernel_rfl) ?_
    intro x u p hp hg hd K hK
    obtain rfl : p = 0 := by omega
    change Kp w u at hg
    have d1 : (x 1) = .pointer (some ⟨pb, 0, none⟩) := And.left hd
    clear hd
    refine ⟨?_⟩
    simp only [putsFrom, Act.put, List.setIfInBounds_toArray, List.set_cons_zero, List.set_cons_succ, Nat.reduceAdd, d1] at hK ⊢
    go_simp
    exact hK.out _ _ (Kp.refl _) rfl
  case sc3 =>
    refine OpStepQ.off 0 0 (by kernel_rfl) (by kernel_rfl) ?_
    intro x u p hp hg hd K hK
    obtain rfl : p = 0 := by omega
    change Kp w u at hg
    have d2 : (x 2) = .pointer (some ⟨pb, 0, none⟩) := And.left hd
    clear hd
    refine ⟨?_⟩
    simp only [putsFrom, Act.put, List.setIfInBounds_toArray, List.set_cons_zero, List.set_cons_succ, Nat.reduceAdd, d2] at hK ⊢
    go_simp
    exact hK.out _ _ (Kp.refl _) rfl
  case sc4 =>
    refine OpStepQ.off 0 0 (by kernel_rfl) (by kernel_rfl) ?_
    intro x u p hp hg hd K hK
    obtain rfl : p = 0 := by omega
    change Kp w u at hg
    have d3 : (x 3) = .pointer (some ⟨pb, 0, none⟩) := And.left hd
    clear hd
    refine ⟨?_⟩
    simp only [putsFrom, Act.put, List.setIfInBounds_toArray, List.set_cons_zero, List.set_cons_succ, Nat.reduceAdd, d3] at hK ⊢
    go_simp
    exact hK.out _ _ (Kp.refl _) rfl
  case sc5 =>
    refine OpStepQ.off 0 0 (by kernel_rfl) (by kernel_rfl) ?_
    intro x u p hp hg hd K hK
    obtain rfl : p = 0 := by omega
    change Kp w u at hg
    have d4 : (x 4) = .pointer (some ⟨pb, 0, none⟩) := And.left hd
    clear hd
    have q := (HP.out.kp hg).c0
    refine ⟨?_⟩
    simp only [putsFrom, Act.put, List.setIfInBounds_toArray, List.set_cons_zero, List.set_cons_succ, Nat.reduceAdd, d4] at hK ⊢
    go_simp
    exact hK.out _ _ (Kp.refl _) rfl
  case sc6 =>
    refine OpStepQ.off 0 0 (by kernel_rfl) (by kernel_rfl) ?_
    intro x u p hp hg hd K hK
    obtain rfl : p = 0 := by omega
    change Kp w u at hg
    clear hd
    refine ⟨?_⟩
    simp only [putsFrom, Act.put, List.setIfInBounds_toArray, List.set_cons_zero, List.set_cons_succ, Nat.reduceAdd] at hK ⊢
    go_simp
    exact hK.out _ _ (Kp.refl _) rfl
  case sc7 =>
    refine OpStepQ.off 0 0 (by kernel_rfl) (by kernel_rfl) ?_
    intro x u p hp hg hd K hK
    obtain rfl : p = 0 := by omega
    change Kp w u at hg
    have d6 : (x 6) = .pointer (some ⟨pb, 0, none⟩) := And.left hd
    clear hd
    refine ⟨?_⟩
    simp only [putsFrom, Act.put, List.setIfInBounds_toArray, List.set_cons_zero, List.set_cons_succ, Nat.reduceAdd, d6] at hK ⊢
    go_simp
    exact hK.out _ _ (Kp.refl _) rfl
  case sc8 =>
    refine OpStepQ.off 0 0 (by kernel_rfl) (by kernel_rfl) ?_
    intro x u p hp hg hd K hK
    obtain rfl : p = 0 := by omega
    change Kp w u at hg
    have d7 : (x 7) = .pointer (some ⟨pb, 0, none⟩) := And.left hd
    clear hd
    refine ⟨?_⟩
    simp only [putsFrom, Act.put, List.setIfInBounds_toArray, List.set_cons_zero, List.set_cons_succ, Nat.reduceAdd, d7] at hK ⊢
    go_simp
    exact hK.out _ _ (Kp.refl _) rfl
  case sc9 =>
    refine OpStepQ.off 0 0 (by kernel_rfl) (by kernel_rfl) ?_
    intro x u p hp hg hd K hK
    obtain rfl : p = 0 := by omega
    change Kp w u at hg
    have d8 : (x 8) = .pointer (some ⟨pb, 0, none⟩) := And.left hd
    clear hd
    refine ⟨?_⟩
    simp only [putsFrom, Act.put, List.setIfInBounds_toArray, List.set_cons_zero, List.set_cons_succ, Nat.reduceAdd, d8] at hK ⊢
    go_simp
    exact hK.out _ _ (Kp.refl _) rfl
  case sc10 =>
    refine OpStepQ.off 0 0 (by kernel_rfl) (by kernel_rfl) ?_
    intro x u p hp hg hd K hK
    obtain rfl : p = 0 := by omega
    change Kp w u at hg
    have d9 : (x 9) = .pointer (some ⟨pb, 2, none⟩) := And.left hd
    clear hd
    have q := (HP.out.kp hg).c2
    refine ⟨?_⟩
    simp only [putsFrom, Act.put, List.setIfInBounds_toArray, List.set_cons_zero, List.set_cons_succ, Nat.reduceAdd, d9] at hK ⊢
    go_simp
    exact hK.out _ _ (Kp.refl _) rfl
  case sc11 =>
    refine OpStepQ.off 0 0 (by kernel_rfl) (by kernel_rfl) ?_
    intro x u p hp hg hd K hK
    obtain rfl : p = 0 := by omega
    change Kp w u at hg
    clear hd
    refine ⟨?_⟩
    simp only [putsFrom, Act.put, List.setIfInBounds_toArray, List.set_cons_zero, List.set_cons_succ, Nat.reduceAdd] at hK ⊢
    go_simp
    exact hK.out _ _ (Kp.refl _) rfl
  case sc12 =>
    refine OpStepQ.off 0 0 (by kernel_rfl) (by kernel_rfl) ?_
    intro x u p hp hg hd K hK
    obtain rfl : p = 0 := by omega
    change Kp w u at hg
    clear hd
    refine ⟨?_⟩
    simp only [putsFrom, Act.put, List.setIfInBounds_toArray, List.set_cons_zero, List.set_cons_succ, Nat.reduceAdd] at hK ⊢
    go_simp
    exact hK.out _ _ (Kp.refl _) rfl
  case sc13 =>
    refine OpStepQ.off 0 0 (by kernel_rfl) (by kernel_rfl) ?_
    intro x u p hp hg hd K hK
    obtain rfl : p = 0 := by omega
    change Kp w u at hg
    have d10 : (x 10) = .int .i64 S.next := And.left hd
    have d11 : (x 11) = .int .i64 mark := And.left (And.right hd)
    have d12 : (x 12) = .int .i64 ser := And.left (And.right (And.right hd))
    clear hd
    refine ⟨?_⟩
    simp only [putsFrom, Act.put, List.setIfInBounds_toArray, List.set_cons_zero, List.set_cons_succ, Nat.reduceAdd, d10, d11, d12] at hK ⊢
    go_simp
    exact hK.out _ _ (Kp.refl _) rfl
  case sc14 =>
    refine OpStepQ.off 0 0 (by kernel_rfl) (by kernel_rfl) ?_
    intro x u p hp hg hd K hK
    obtain rfl : p = 0 := by omega
    change Kp w u at hg
    have d13 : (x 13) = .agg #[.int .i64 S.next, .int .i64 mark, .int .i64 ser, .int .i64 0, .slice none 0 0] := And.left hd
    clear hd
    refine ⟨?_⟩
    simp only [putsFrom, Act.put, List.setIfInBounds_toArray, List.set_cons_zero, List.set_cons_succ, Nat.reduceAdd, d13] at hK ⊢
    go_simp
    exact hK.out _ _ ((Kp.refl _).alloc _) ⟨_, rfl, hg.le, blk_new _ _⟩
  case sc15 =>
    refine OpStepQ.on 0 (by kernel_rfl) (by kernel_rfl) ?_
    intro x u hg hd K hK
    change Kp w u at hg
    have d5 : (x 5) = .slice A S.fr.length c := And.left hd
    have d14 : LitAt w.heap.size 44 #[.int .i64 S.next, .int .i64 mark, .int .i64 ser, .int .i64 0, .slice none 0 0] (x 14) u := And.left (And.right hd)
    clear hd
    obtain ⟨b, e6, hb6, hlit⟩ := d14
    obtain ⟨l1, l2, l3, l4, l5⟩ := FrX.kp HX.out hg
    have hL : L.length = S.fr.length := by have := congrArg List.length l2; simpa using this
    have hL2 := hid hL
    have l1a := l1
    rw [hL] at l1a
    clear hL
    refine ⟨?_⟩
    simp only [putsFrom, Act.put, List.setIfInBounds_toArray, List.set_cons_zero, List.set_cons_succ, Nat.reduceAdd, d5, e6] at hK ⊢
    rw [if_pos (by simp [Region.wanted])]
    refine wp_appP elFrame (.tmp 21) (.tmp 30) (by rfl) l1a (by rfl) (frCells ⟨S.next, mark, ser, 0, []⟩ (.slice none 0 0)) _ 1 1 (by rfl) rfl (fun _ => ⟨_, rfl, lit_src hlit⟩) (frCells_one _) B1.out B2.out (Nat.le_trans (by omega) hg.le) ?_
    intro v' w' G1 G2 G3 G4
    exact hK.out v' w' (KpF.of_grown G2 BF.out) ⟨(Touch.of_kp hg).trans (Touch.of_grown l1 G2), FrRow.push l1 l2 l3 l4 l5 G2 (by rw [hL2.out]) G1 rfl HOK.out, Below.trans (Below.mono hg (by omega)) G4⟩ trivial
  case sc16 =>
    refine OpStepQ.off 0 1 (by kernel_rfl) (by kernel_rfl) ?_
    intro x u p hp hg hd K hK
    have d0 : (x 0) = .pointer (some ⟨pb, 0, none⟩) := And.left hd
    clear hd
    refine ⟨?_⟩
    simp only [putsFrom, Act.put, List.setIfInBounds_toArray, List.set_cons_zero, List.set_cons_succ, Nat.reduceAdd, d0] at hK ⊢
    go_simp
    exact hK.out _ _ (Kp.refl _) rfl
  case sc17 =>
    refine OpStepQ.off 0 1 (by kernel_rfl) (by kernel_rfl) ?_
    intro x u p hp hg hd K hK
    have d16 : (x 16) = .pointer (some ⟨pb, 0, none⟩) := And.left hd
    clear hd
    refine ⟨?_⟩
    simp only [putsFrom, Act.put, List.setIfInBounds_toArray, List.set_cons_zero, List.set_cons_succ, Nat.reduceAdd, d16] at hK ⊢
    go_simp
    exact hK.out _ _ (Kp.refl _) rfl
  case sc18 =>
    refine OpStepQ.off 0 1 (by kernel_rfl) (by kernel_rfl) ?_
    intro x u p hp hg hd K hK
    have d17 : (x 17) = .pointer (some ⟨pb, 0, none⟩) := And.left hd
    clear hd
    refine ⟨?_⟩
    simp only [putsFrom, Act.put, List.setIfInBounds_toArray, List.set_cons_zero, List.set_cons_succ, Nat.reduceAdd, d17] at hK ⊢
    go_simp
    exact hK.out _ _ (Kp.refl _) rfl
  case sc19 =>
    refine OpStepQ.on 1 (by kernel_rfl) (by kernel_rfl) ?_
    intro x u hg hd K hK
    change Touch 44 w u ∧ FrX u base (x 15) (L ++ [(⟨S.next, mark, ser, 0, []⟩, .slice none 0 0)]) (⟨S.next, mark, ser, 0, []⟩ :: S.fr) ∧ Below base w u at hg
    have d18 : (x 18) = .pointer (some ⟨pb, 0, none⟩) := And.left (And.right hd)
    clear hd
    obtain ⟨hg1, hg2, hg3⟩ := hg
    obtain ⟨A7, c7, e7, _⟩ := FrRow.len ⟨_, hg2⟩
    simp only [List.length_cons] at e7
    have hb := HP.out.blkT hg1 (by decide)
    have q := blk_cell (o := 0) (v := .slice A S.fr.length c) hb rfl
    have qf := blk_free (o := 0) hb
    have HE := hid (HP.out.frames_ hg1 ⟨_, hg2⟩)
    have HX2 := hid (FrX.touch hg2 (rowTouch (o := 0) hb (x 15)) (by decide) (by decide))
    have HG3 := hid hg3
    have e7' := hid e7
    clear hb hg1 hg2 hg3
    refine ⟨?_⟩
    simp only [putsFrom, Act.put, List.setIfInBounds_toArray, List.set_cons_zero, List.set_cons_succ, Nat.reduceAdd, d18, e7] at hK ⊢
    go_simp
    rw [e7'.out] at HE HX2
    exact hK.out undef _ (KpF.setCell hpb _) ⟨⟨_, HE.out, HX2.out⟩, HG3.out.setCell hge _⟩ trivial
  intro x u hg he
  have d0 : (x 0) = .pointer (some ⟨pb, 0, none⟩) := And.left he
  have d1 : (x 1) = .pointer (some ⟨pb, 0, none⟩) := And.left (And.right he)
  have d2 : (x 2) = .pointer (some ⟨pb, 0, none⟩) := And.left (And.right (And.right he))
  have d3 : (x 3) = .pointer (some ⟨pb, 0, none⟩) := And.left (And.right (And.right (And.right he)))
  have d4 : (x 4) = .pointer (some ⟨pb, 0, none⟩) := And.left (And.right (And.right (And.right (And.right he))))
  have d5 : (x 5) = .slice A S.fr.length c := And.left (And.right (And.right (And.right (And.right (And.right he)))))
  have d6 : (x 6) = .pointer (some ⟨pb, 0, none⟩) := And.left (And.right (And.right (And.right (And.right (And.right (And.right he))))))
  have d7 : (x 7) = .pointer (some ⟨pb, 0, none⟩) := And.left (And.right (And.right (And.right (And.right (And.right (And.right (And.right he)))))))
  have d8 : (x 8) = .pointer (some ⟨pb, 0, none⟩) := And.left (And.right (And.right (And.right (And.right (And.right (And.right (And.right (And.right he))))))))
  have d9 : (x 9) = .pointer (some ⟨pb, 2, none⟩) := And.left (And.right (And.right (And.right (And.right (And.right (And.right (And.right (And.right (And.right he)))))))))
  have d10 : (x 10) = .int .i64 S.next := And.left (And.right (And.right (And.right (And.right (And.right (And.right (And.right (And.right (And.right (And.right he))))))))))
  have d11 : (x 11) = .int .i64 mark := And.left (And.right (And.right (And.right (And.right (And.right (And.right (And.right (And.right (And.right (And.right (And.right he)))))))))))
  have d12 : (x 12) = .int .i64 ser := And.left (And.right (And.right (And.right (And.right (And.right (And.right (And.right (And.right (And.right (And.right (And.right (And.right he))))))))))))
  have d13 : (x 13) = .agg #[.int .i64 S.next, .int .i64 mark, .int .i64 ser, .int .i64 0, .slice none 0 0] := And.left (And.right (And.right (And.right (And.right (And.right (And.right (And.right (And.right (And.right (And.right (And.right (And.right (And.right he)))))))))))))
  have d14 : LitAt w.heap.size 44 #[.int .i64 S.next, .int .i64 mark, .int .i64 ser, .int .i64 0, .slice none 0 0] (x 14) u := And.left (And.right (And.right (And.right (And.right (And.right (And.right (And.right (And.right (And.right (And.right (And.right (And.right (And.right (And.right he))))))))))))))
  have d16 : (x 16) = .pointer (some ⟨pb, 0, none⟩) := And.left (And.right (And.right (And.right (And.right (And.right (And.right (And.right (And.right (And.right (And.right (And.right (And.right (And.right (And.right (And.right (And.right he))))))))))))))))
  have d17 : (x 17) = .pointer (some ⟨pb, 0, none⟩) := And.left (And.right (And.right (And.right (And.right (And.right (And.right (And.right (And.right (And.right (And.right (And.right (And.right (And.right (And.right (And.right (And.right (And.right he)))))))))))))))))
  have d18 : (x 18) = .pointer (some ⟨pb, 0, none⟩) := And.left (And.right (And.right (And.right (And.right (And.right (And.right (And.right (And.right (And.right (And.right (And.right (And.right (And.right (And.right (And.right (And.right (And.right (And.right he))))))))))))))))))
  clear he
  change (∃ fv2, Pl u base pb fv2 pv tv { S with fr := ⟨S.next, mark, ser, 0, []⟩ :: S.fr } ∧ FrX u base fv2 (L ++ [(⟨S.next, mark, ser, 0, []⟩, .slice none 0 0)]) (⟨S.next, mark, ser, 0, []⟩ :: S.fr)) ∧ Below base w u at hg
  refine ⟨?_⟩
  simp only [putsFrom, Act.put, List.setIfInBounds_toArray, List.set_cons_zero, List.set_cons_succ, Nat.reduceAdd, d0, d1, d2, d3, d4, d5, d6, d7, d8, d9, d10, d11, d12, d13, d16, d17, d18]
  clear d0 d1 d2 d3 d4 d5 d6 d7 d8 d9 d10 d11 d12 d13 d16 d17 d18
  obtain ⟨hg1, hg2⟩ := hg
  obtain ⟨fv2, hp2, hx2⟩ := hg1
  have q2 := hp2.c2
  have qf := hp2.fz
  have HB := hid hg2
  have HE := hid (hp2.next_ (x := S.next + 1) HN.out)
  have HX3 := hid (FrX.touch hx2 (hp2.self 2 (.int .i64 (S.next + 1))) (by decide) (by decide))
  clear hp2 hg2 hx2
  go_wp2
  go_ret
  exact ⟨rfl, ⟨_, HE.out, HX3.out⟩, HB.out.setCell hge _⟩
end Go.Proofs.Ytiicdknmoakocaa
