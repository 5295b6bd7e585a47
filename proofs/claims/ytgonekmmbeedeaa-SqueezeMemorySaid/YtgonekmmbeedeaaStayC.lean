/-
The laws' own roomyCode: a code with marked room behind its rows. Condition: what comes in lies within the reach.
The laws' own stayedCode. Condition: what comes in lies within the reach.
-/
import Derived.Test.YtgonekmmbeedeaaCodeL
import Derived.Test.YtgonekmmbeedeaaRegionX
import Derived.Deep.DeepCutAuto
import Derived.Laws.MakeOwn
import Derived.Test.YtgonekmmbeedeaaCodeT
import Derived.Laws.CopyRow
import Derived.Laws.IdiomCopy
import Derived.Laws.CopyOwn
namespace Go.Proofs.Ytgonekmmbeedeaa
open Go.RowKit
set_option linter.unusedVariables false
set_option linter.unusedSimpArgs false

theorem made_run {P : Program} {t e : TypeId} {z : Value} {size bytes : Nat} (E : El P t e z size bytes) (N : Nat) (hb : bytes * N ≤ 281474976710656) (hN : N ≤ maxLen) : ∃ MK : Array Value, MK.size = N * size ∧ ∀ u : World, (Instr.makeSlice t (.int .i64 0) (.int .i64 (N : Int))).run P u = .ok (.slice (some ⟨u.heap.size, 0, none⟩) 0 N) (u.alloc (.cells MK e)) := by
  obtain ⟨i0, hT, hi, hz0, hz1, hz2, hz3, _⟩ := E
  have hb2 : ((i0.bytes : Int) * (N : Int)) ≤ 281474976710656 := by rw [hz2]; have h : ((bytes * N : Nat) : Int) ≤ 281474976710656 := by omega
                                                                    rwa [Int.natCast_mul] at h
  refine ⟨madeCells z.cells (N * i0.size), by simp [madeCells, hz1], fun u => ?_⟩
  have h := run_make (P := P) u t e i0 z hT hi hz0 .i64 .i64 0 (N : Int) (Int.le_refl _) (by omega) hb2 (by unfold maxLen at hN; omega)
  rw [h]
  simp
/-- A row with a marked element behind its end. -/
def RmO {α : Type} (el : World → List Value → α → Prop) (sz : Nat) (e : TypeId) (mk : List Value) (w : World) (base : Nat) (v : Value) (l : List α) : Prop := ∃ g c xs, v = .slice (some ⟨g, 0, none⟩) l.length c ∧ l.length + 1 ≤ c ∧ w.ownsRow base e sz (.slice (some ⟨g, 0, none⟩) (l.length + 1) c) (l.length + 1) (xs ++ mk) ∧ Chunk el sz w xs l
section
variable {α : Type} {el : World → List Value → α → Prop} {sz : Nat} {e : TypeId} {mk : List Value} {w w' : World} {base : Nat} {v : Value} {l : List α}
theorem RmO.kp (hel : ElKp el) (hk : Kp w w') (h : RmO el sz e mk w base v l) : RmO el sz e mk w' base v l := by
  obtain ⟨g, c, xs, h1, h2, h3, h4⟩ := h
  exact ⟨g, c, xs, h1, h2, ownsRow_keep h3 hk, h4.kp hel hk⟩
theorem RmO.touch {e' : TypeId} (hne : e ≠ e') (hel : ∀ cs a, el w cs a → el w' cs a) (ht : Touch e' w w') (h : RmO el sz e mk w base v l) : RmO el sz e mk w' base v l := by
  obtain ⟨g, c, xs, h1, h2, h3, h4⟩ := h
  exact ⟨g, c, xs, h1, h2, ownsRow_touch hne h3 ht, Chunk.mono hel h4⟩
theorem RmO.base_ {b : Nat} (hb : b ≤ base) (h : RmO el sz e mk w base v l) : RmO el sz e mk w b v l := by
  obtain ⟨g, c, xs, h1, h2, h3, h4⟩ := h
  exact ⟨g, c, xs, h1, h2, own_base hb h3, h4⟩
theorem RmO.rd (h : RmO el sz e mk w base v l) : RdL el sz w v l := by
  obtain ⟨g, c, xs, rfl, h2, h3, h4⟩ := h
  have hl := h4.len
  have ht := rowTake h3 (k := l.length) (by omega)
  rw [← hl, List.take_left] at ht
  exact OwnL.rd ⟨xs, ht, h4⟩
theorem RmO.form (h : RmO el sz e mk w base v l) : ∃ g c, v = .slice (some ⟨g, 0, none⟩) l.length c ∧ l.length + 1 ≤ c := by
  obtain ⟨g, c, xs, h1, h2, _⟩ := h; exact ⟨g, c, h1, h2⟩
/-- The marked element's cells. -/
theorem RmO.mark {g c : Nat} (h : RmO el sz e mk w base (.slice (some ⟨g, 0, none⟩) l.length c) l) (j : Nat) (hj : j < sz) : w.cell? ⟨g, l.length * sz + j, none⟩ = mk[j]? := by
  obtain ⟨g', c', xs, h1, h2, h3, h4⟩ := h
  injection h1 with h1 _ h5
  injection h1 with h1
  injection h1 with h1
  subst h1; subst h5
  have hl := h4.len
  rw [(rowAt h3 (j := l.length * sz + j) (by rw [Nat.succ_mul]; omega)).1, List.getElem?_append_right (by omega), hl, Nat.add_sub_cancel_left]
end
def spareB : ByteArray := ⟨#[115, 112, 97, 114, 101]⟩
def mkI : List Value := [.int .i64 (-4711), .int .i64 0, .int .i64 0, .int .i64 0, .int .i64 0, .int .i64 0]
/-- A function whose instructions have marked room. -/
def CeRm (base : Nat) (w : World) (cs : List Value) (f : FnM) : Prop := ∃ lins, cs = [.string f.name, .int .i64 f.params, .int .i64 f.slots, .int .i64 f.caps, lins] ∧ RmO CeIns 6 64 mkI w base lins f.ins ∧ okFnB f
theorem CeRm.kp {base : Nat} : ElKp (CeRm base) := fun _ _ _ _ hk ⟨l, h, h0, h1⟩ => ⟨l, h, h0.kp CeIns.kp hk, h1⟩
theorem CeRm.touch {base : Nat} {e : TypeId} (hne : 64 ≠ e) {w w' : World} {cs : List Value} {f : FnM} (ht : Touch e w w') (h : CeRm base w cs f) : CeRm base w' cs f := by
  obtain ⟨l, h, h0, h1⟩ := h
  exact ⟨l, h, h0.touch hne (fun _ _ h => CeIns.any h) ht, h1⟩
theorem CeRm.base_ {b B : Nat} (hb : b ≤ B) {w : World} {cs : List Value} {f : FnM} (h : CeRm B w cs f) : CeRm b w cs f := by
  obtain ⟨l, h, h0, h1⟩ := h
  exact ⟨l, h, h0.base_ hb, h1⟩
theorem CeRm.ce {base : Nat} {w : World} {cs : List Value} {f : FnM} (h : CeRm base w cs f) : CeFn w cs f := by
  obtain ⟨l, h, h0, h1, h2, h3, h4, h5⟩ := h
  exact ⟨l, h, h1, h2, h3, h4, h0.rd, h5⟩
/-- A code with marked room behind its rows. -/
def RmCode (w : World) (base : Nat) (v : Value) (c : CodeM) : Prop := ∃ vf vt, v = .agg #[vf, vt] ∧ OwnL (CeRm base) 5 45 w base vf c.funcs ∧ RmO CeStr 1 9 [.string spareB] w base vt c.texts ∧ c.funcs.length * 64 ≤ 140737488351232 ∧ c.texts.length * 16 ≤ 140737488351232
theorem RmCode.kp {w w' : World} {base : Nat} {v : Value} {c : CodeM} (h : RmCode w base v c) (hk : Kp w w') : RmCode w' base v c := by
  obtain ⟨vf, vt, rfl, h1, h2, h3, h4⟩ := h
  exact ⟨vf, vt, rfl, h1.kp CeRm.kp hk, h2.kp CeStr.kp hk, h3, h4⟩
theorem RmCode.rd {w : World} {base : Nat} {v : Value} {c : CodeM} (h : RmCode w base v c) : RdCode w v c := by
  obtain ⟨vf, vt, rfl, h1, h2, h3, h4⟩ := h
  exact ⟨vf, vt, rfl, (OwnL.rd h1).mono (fun _ _ h => h.ce), h3, h2.rd, h4⟩
/-- Boxes of codes stay boxes of codes. -/
def KpC (a b : World) : Prop := a.heap.size ≤ b.heap.size ∧ ∀ (k : Nat) (c1 c2 : Value), a.heap[k]? = some (.cells #[c1, c2] 25 (0, 0)) → ∃ d1 d2, b.heap[k]? = some (.cells #[d1, d2] 25 (0, 0))
theorem KpC.of_kp {a b : World} (h : Kp a b) : KpC a b := ⟨h.le, fun k c1 c2 hk => ⟨c1, c2, (h.block k (blk_lt hk)).trans hk⟩⟩
theorem KpC.of_touch {e : TypeId} (hne : 25 ≠ e) {a b : World} (h : Touch e a b) : KpC a b := ⟨h.1, fun k c1 c2 hk => ⟨c1, c2, h.2 _ _ hk (fun cs fr q => by injection q with _ q _; exact hne q)⟩⟩
theorem KpC.of_set {a : World} {b : Nat} {x1 x2 : Value} (h : a.heap[b]? = some (.cells #[x1, x2] 25 (0, 0))) (v1 v2 : Value) : KpC a ((a.setCell ⟨b, 0, none⟩ v1).setCell ⟨b, 1, none⟩ v2) := by
  have hb := blk_set (o := 1) (blk_set (o := 0) h v1) v2
  have ht := (rowTouch (o := 0) h v1).trans (rowTouch (o := 1) (blk_set (o := 0) h v1) v2)
  refine ⟨ht.1, fun k c1 c2 hk => ?_⟩
  by_cases e : k = b
  · subst e
    exact ⟨v1, v2, hb⟩
  · exact ⟨c1, c2, by rw [blk_far (p := ⟨b, 1, none⟩) e, blk_far (p := ⟨b, 0, none⟩) e]; exact hk⟩
def BoxC (B : Nat) (y : Value) (u : World) : Prop := ∃ b c1 c2, y = .pointer (some ⟨b, 0, none⟩) ∧ B ≤ b ∧ u.heap[b]? = some (.cells #[c1, c2] 25 (0, 0))
theorem BoxC.keep {B : Nat} {y : Value} {u u' : World} (h : BoxC B y u) (hk : KpC u u') : BoxC B y u' := by
  obtain ⟨b, c1, c2, h1, h2, h3⟩ := h
  obtain ⟨d1, d2, h4⟩ := hk.2 _ _ _ h3
  exact ⟨b, d1, d2, h1, h2, h4⟩
/-- What roomyCode has done: k functions are copied. -/
structure RmS (W : World) (b3 : Nat) (vf vt : Value) (c : CodeM) (k : Nat) (wr : World) : Prop where
  kp : Kp W wr
  ge : W.heap.size ≤ b3
  box : wr.heap[b3]? = some (.cells #[vf, vt] 25 (0, 0))
  fns : OwnL (CeRm W.heap.size) 5 45 wr W.heap.size vf (c.funcs.take k)
  txs : RmO CeStr 1 9 [.string spareB] wr W.heap.size vt c.texts
theorem RmS.keep {W wr w' : World} {b3 k : Nat} {vf vt : Value} {c : CodeM} (h : RmS W b3 vf vt c k wr) (hk : Kp wr w') : RmS W b3 vf vt c k w' :=
  ⟨h.kp.trans hk, h.ge, (hk.block _ (blk_lt h.box)).trans h.box, h.fns.kp CeRm.kp hk, h.txs.kp CeStr.kp hk⟩
theorem RmS.step {W wr w' : World} {b3 k : Nat} {vf vt v' : Value} {c : CodeM} (h : RmS W b3 vf vt c k wr) (ht : Touch 45 wr w') (hb : Below W.heap.size wr w') (hrow : OwnL (CeRm W.heap.size) 5 45 w' W.heap.size v' (c.funcs.take (k + 1))) : RmS W b3 v' vt c (k + 1) (w'.setCell ⟨b3, 0, none⟩ v') := by
  have hbx : w'.heap[b3]? = some (.cells #[vf, vt] 25 (0, 0)) := ht.2 _ _ h.box (fun cs fr e => by injection e with _ e _; exact absurd e (by decide))
  have hs := rowTouch (o := 0) hbx v'
  exact ⟨(Below.trans h.kp hb).setCell (p := ⟨b3, 0, none⟩) h.ge v', h.ge, blk_set hbx v', ownL_touch (by decide) (fun _ _ x => x.touch (by decide) hs) hrow hs, (h.txs.touch (by decide) (fun _ _ h => CeStr.any h) ht).touch (by decide) (fun _ _ h => CeStr.any h) hs⟩
set_option maxRecDepth 20000 in
set_option maxHeartbeats 16000000 in
theorem roomyCode_any (w : World) (v : Value) (c : CodeM) (h : RdCode w v c) : Calls Try.prog 9 #[v] w fun e w' => (∃ v', e = .returned v' ∧ RmCode w' w.heap.size v' c) ∧ Kp w w' := by
  obtain ⟨lf, lt, rfl, hf, hfl, ht, htl⟩ := h
  have HF := hid hf
  have HT := hid ht
  obtain ⟨Af, cf, rfl, _⟩ := hf.form
  obtain ⟨At, ct, rfl, _⟩ := ht.form
  have HFL := hid hfl
  have HTL := hid htl
  clear hf ht
  have HK0 := hid (show Kp w ((w.alloc (.cells #[.slice Af c.funcs.length cf, .slice At c.texts.length ct] 25)).alloc (.cells #[.slice none 0 0, .slice none 0 0] 25)) from ((Kp.refl _).alloc _).alloc _)
  have HB0 := hid (blk_old (blk_new w (.cells #[.slice Af c.funcs.length cf, .slice At c.texts.length ct] 25)) (.cells #[.slice none 0 0, .slice none 0 0] 25))
  have HBR := hid (show ((w.alloc (.cells #[.slice Af c.funcs.length cf, .slice At c.texts.length ct] 25)).alloc (.cells #[.slice none 0 0, .slice none 0 0] 25)).heap[w.heap.size + 1]? = some (.cells #[.slice none 0 0, .slice none 0 0] 25 (0, 0)) from by have h := blk_new (w.alloc (.cells #[.slice Af c.funcs.length cf, .slice At c.texts.length ct] 25)) (.cells #[.slice none 0 0, .slice none 0 0] 25); rw [World.size_alloc] at h; exact h)
  go_enter Try.func9, Try.ntmps9
  go_upto_region 1 with fail
  generalize ((w.alloc (.cells #[.slice Af c.funcs.length cf, .slice At c.texts.length ct] 25)).alloc (.cells #[.slice none 0 0, .slice none 0 0] 25)) = W at HK0 HB0 HBR ⊢
  obtain ⟨n1, hn1⟩ : ∃ n1, w.heap.size + 1 = n1 := ⟨_, rfl⟩
  obtain ⟨n0, hn0⟩ : ∃ n0, w.heap.size = n0 := ⟨_, rfl⟩
  rw [hn1] at HBR ⊢
  rw [hn0] at HB0 ⊢
  have HNN := hid (show w.heap.size ≤ n0 ∧ w.heap.size ≤ n1 by omega)
  clear hn1 hn0
  obtain ⟨news, hch, hnl, hsrc⟩ := (HT.out.kp CeStr.kp HK0.out).src
  have HCH := hid hch
  have HS := hid hsrc
  have HL := hid hch.len
  clear hch hsrc hnl
  obtain ⟨MK, hMK, hmk⟩ := made_run elStrW (c.texts.length + 2) (by omega) (by unfold maxLen; omega)
  have hmk2 : ∀ u : World, (Instr.makeSlice 23 (.int .i64 0) (.int .i64 ((c.texts.length : Int) + 2))).run Try.prog u = .ok (.slice (some ⟨u.heap.size, 0, none⟩) 0 (c.texts.length + 2)) (u.alloc (.cells MK 9)) := fun u => by
    have h := hmk u
    rwa [show ((c.texts.length + 2 : Nat) : Int) = (c.texts.length : Int) + 2 by omega] at h
  have HMK := hid hMK
  have HMK2 := hid hmk2
  have H1 := hid (Chunk.one_ (fun cs a h => str_one cs a h) HCH.out)
  have B1 := hid (show 0 + c.texts.length ≤ maxLen by unfold maxLen; omega)
  have B2 := hid (show (0 + c.texts.length) * 16 ≤ 140737488355328 by omega)
  have B3 := hid (show c.texts.length + 2 ≤ maxLen by unfold maxLen; omega)
  have kw : IntKind.i64.wrap ((c.texts.length : Int) + 2) = (c.texts.length : Int) + 2 := by rw [IntKind.wrap_i64]; omega
  have q0 := blk_cell (o := 0) (v := Value.slice Af c.funcs.length cf) HB0.out rfl
  have q1 := blk_cell (o := 1) (v := Value.slice At c.texts.length ct) HB0.out rfl
  have ql := blk_lt HB0.out
  clear hmk hMK hmk2
  refine wp_region_phaseX [4, 7, 8, 10] [(0, 0), (0, 0), (0, 0), (0, 0), (0, 0), (0, 1), (0, 1), (0, 0), (0, 0), (0, 3), (0, 0)] (KpC) [[], [0], [1], [2], [3], [], [5], [4, 6], [7], [], [8, 9]]
    (fun (p : Nat) (x : Nat → Value) (u : World) => match p with | 0 => Kp W u | 1 => Kp W u ∧ ∃ b, x 4 = .slice (some ⟨b, 0, none⟩) 0 (c.texts.length + 2) ∧ u.ownsRow W.heap.size 9 1 (.slice (some ⟨b, 0, none⟩) 0 (c.texts.length + 2)) 0 [] | 2 => Kp W u ∧ ∃ A k, x 7 = .slice A c.texts.length k ∧ OwnL CeStr 1 9 u W.heap.size (.slice A c.texts.length k) c.texts | 3 => Kp W u ∧ ∃ A k, x 8 = .agg #[.slice none 0 0, .slice A c.texts.length k] ∧ OwnL CeStr 1 9 u W.heap.size (.slice A c.texts.length k) c.texts | _ => Kp W u ∧ ∃ b A k, x 9 = .pointer (some ⟨b, 0, none⟩) ∧ W.heap.size ≤ b ∧ u.heap[b]? = some (.cells #[.slice none 0 0, .slice A c.texts.length k] 25 (0, 0)) ∧ OwnL CeStr 1 9 u W.heap.size (.slice A c.texts.length k) c.texts)
    [fun (y : Value) (u : World) => y = (.pointer (some ⟨n0, 1, none⟩) : Value),
     fun (y : Value) (u : World) => y = (.slice At c.texts.length ct : Value),
     fun (y : Value) (u : World) => y = (.int .i64 (c.texts.length : Int) : Value),
     fun (y : Value) (u : World) => y = (.int .i64 ((c.texts.length : Int) + 2) : Value),
     fun (y : Value) (u : World) => True,
     fun (y : Value) (u : World) => y = (.pointer (some ⟨n0, 1, none⟩) : Value),
     fun (y : Value) (u : World) => y = (.slice At c.texts.length ct : Value),
     fun (y : Value) (u : World) => True,
     fun (y : Value) (u : World) => True,
     fun (y : Value) (u : World) => BoxC W.heap.size y u,
     fun (y : Value) (u : World) => True]
    (by kernel_rfl) (by kernel_rfl) (by kernel_rfl) (by kernel_rfl) (by kernel_rfl) (by kernel_rfl) (fun _ _ hk => KpC.of_kp hk) ((Kp.refl _).drew) ?hKb ?hXb ⟨fun _ _ _ _ h => h, fun _ _ _ _ h => h, fun _ _ _ _ h => h, fun _ _ _ _ h => h, fun _ _ _ _ _ => trivial, fun _ _ _ _ h => h, fun _ _ _ _ h => h, fun _ _ _ _ _ => trivial, fun _ _ _ _ _ => trivial, fun _ _ _ hk h => h.keep hk, fun _ _ _ _ _ => trivial, trivial⟩ ⟨?sb0, ?sb1, ?sb2, ?sb3, ?sb4, ?sb5, ?sb6, ?sb7, ?sb8, ?sb9, ?sb10, trivial⟩ ?hEb
  case hKb =>
    intro p x w w' hk h
    rcases p with _ | _ | _ | _ | p
    · exact h.trans hk
    · exact ⟨h.1.trans hk, by obtain ⟨b, h1, h2⟩ := h.2; exact ⟨b, h1, ownsRow_keep h2 hk⟩⟩
    · exact ⟨h.1.trans hk, by obtain ⟨A, k, h1, h2⟩ := h.2; exact ⟨A, k, h1, h2.kp CeStr.kp hk⟩⟩
    · exact ⟨h.1.trans hk, by obtain ⟨A, k, h1, h2⟩ := h.2; exact ⟨A, k, h1, h2.kp CeStr.kp hk⟩⟩
    · exact ⟨h.1.trans hk, by obtain ⟨b, A, k, h1, h2, h3, h4⟩ := h.2; exact ⟨b, A, k, h1, h2, (hk.block _ (blk_lt h3)).trans h3, h4.kp CeStr.kp hk⟩⟩
  case hXb =>
    intro p x i v w hi hpi h
    have e0 : upd x i v 4 = x 4 := if_neg (fun hh => hi (by rw [← hh]; decide))
    have e1 : upd x i v 7 = x 7 := if_neg (fun hh => hi (by rw [← hh]; decide))
    have e2 : upd x i v 8 = x 8 := if_neg (fun hh => hi (by rw [← hh]; decide))
    have e3 : upd x i v 10 = x 10 := if_neg (fun hh => hi (by rw [← hh]; decide))
    rcases p with _ | _ | _ | _ | p
    · first | exact h | (simp only [e0, e1, e2, e3]; exact h)
    · first | exact h | (simp only [e0, e1, e2, e3]; exact h)
    · first | exact h | (simp only [e0, e1, e2, e3]; exact h)
    · first | exact h | (simp only [e0, e1, e2, e3]; exact h)
    · have s9 : upd x i v 9 = x 9 := if_neg (fun hh => by subst hh; exact absurd (Nat.le_trans (Nat.le_add_left 4 p) hpi) (by decide))
      first | exact h | (simp only [e0, e1, e2, e3, s9]; exact h)
  case sb0 =>
    refine OpStepQ.off 0 0 (by kernel_rfl) (by kernel_rfl) ?_
    intro x u p hp hg hd K hK
    obtain rfl : p = 0 := by omega
    change Kp W u at hg
    clear hd
    refine ⟨?_⟩
    simp only [putsFrom, Act.put, List.setIfInBounds_toArray, List.set_cons_zero, List.set_cons_succ, Nat.reduceAdd] at hK ⊢
    go_simp
    exact hK.out _ _ (Kp.refl _) rfl
  case sb1 =>
    refine OpStepQ.off 0 0 (by kernel_rfl) (by kernel_rfl) ?_
    intro x u p hp hg hd K hK
    obtain rfl : p = 0 := by omega
    change Kp W u at hg
    have d0 : (x 0) = .pointer (some ⟨n0, 1, none⟩) := And.left hd
    clear hd
    have q := cell_kp hg ql q1
    clear hg
    refine ⟨?_⟩
    simp only [putsFrom, Act.put, List.setIfInBounds_toArray, List.set_cons_zero, List.set_cons_succ, Nat.reduceAdd, d0] at hK ⊢
    go_simp
    exact hK.out _ _ (Kp.refl _) rfl
  case sb2 =>
    refine OpStepQ.off 0 0 (by kernel_rfl) (by kernel_rfl) ?_
    intro x u p hp hg hd K hK
    obtain rfl : p = 0 := by omega
    change Kp W u at hg
    have d1 : (x 1) = .slice At c.texts.length ct := And.left hd
    clear hd
    refine ⟨?_⟩
    simp only [putsFrom, Act.put, List.setIfInBounds_toArray, List.set_cons_zero, List.set_cons_succ, Nat.reduceAdd, d1] at hK ⊢
    go_simp
    exact hK.out _ _ (Kp.refl _) rfl
  case sb3 =>
    refine OpStepQ.off 0 0 (by kernel_rfl) (by kernel_rfl) ?_
    intro x u p hp hg hd K hK
    obtain rfl : p = 0 := by omega
    change Kp W u at hg
    have d2 : (x 2) = .int .i64 (c.texts.length : Int) := And.left hd
    clear hd
    refine ⟨?_⟩
    simp only [putsFrom, Act.put, List.setIfInBounds_toArray, List.set_cons_zero, List.set_cons_succ, Nat.reduceAdd, d2] at hK ⊢
    go_simp
    exact hK.out _ _ (Kp.refl _) rfl
  case sb4 =>
    refine OpStepQ.on 0 (by kernel_rfl) (by kernel_rfl) ?_
    intro x u hg hd K hK
    change Kp W u at hg
    have d3 : (x 3) = .int .i64 ((c.texts.length : Int) + 2) := And.left hd
    clear hd
    have q9 := HMK2.out u
    refine ⟨?_⟩
    simp only [putsFrom, Act.put, List.setIfInBounds_toArray, List.set_cons_zero, List.set_cons_succ, Nat.reduceAdd, d3] at hK ⊢
    go_simp
    exact hK.out _ _ (KpC.of_kp ((Kp.refl _).alloc _)) ⟨hg.alloc _, _, rfl, World.ownsRow_made u MK (c.texts.length + 2) (by simpa using hg.le) B3.out HMK.out⟩ trivial
  case sb5 =>
    refine OpStepQ.off 0 1 (by kernel_rfl) (by kernel_rfl) ?_
    intro x u p hp hg hd K hK
    clear hd
    refine ⟨?_⟩
    simp only [putsFrom, Act.put, List.setIfInBounds_toArray, List.set_cons_zero, List.set_cons_succ, Nat.reduceAdd] at hK ⊢
    go_simp
    exact hK.out _ _ (Kp.refl _) rfl
  case sb6 =>
    refine OpStepQ.off 0 1 (by kernel_rfl) (by kernel_rfl) ?_
    intro x u p hp hg hd K hK
    have d5 : (x 5) = .pointer (some ⟨n0, 1, none⟩) := And.left hd
    clear hd
    have hgk : Kp W u := by
      rcases p with _ | _ | p
      · exact hg
      · exact hg.1
      · omega
    have q := cell_kp hgk ql q1
    clear hg hgk
    refine ⟨?_⟩
    simp only [putsFrom, Act.put, List.setIfInBounds_toArray, List.set_cons_zero, List.set_cons_succ, Nat.reduceAdd, d5] at hK ⊢
    go_simp
    exact hK.out _ _ (Kp.refl _) rfl
  case sb7 =>
    refine OpStepQ.on 1 (by kernel_rfl) (by kernel_rfl) ?_
    intro x u hg hd K hK
    change Kp W u ∧ ∃ b, x 4 = .slice (some ⟨b, 0, none⟩) 0 (c.texts.length + 2) ∧ u.ownsRow W.heap.size 9 1 (.slice (some ⟨b, 0, none⟩) 0 (c.texts.length + 2)) 0 [] at hg
    have d6 : (x 6) = .slice At c.texts.length ct := And.left (And.right hd)
    clear hd
    obtain ⟨hg1, b7, e7, ho7⟩ := hg
    refine ⟨?_⟩
    simp only [putsFrom, Act.put, List.setIfInBounds_toArray, List.set_cons_zero, List.set_cons_succ, Nat.reduceAdd, d6, e7] at hK ⊢
    rw [if_pos (by simp [Region.wanted])]
    refine wp_appP elStrW (.tmp 11) (.tmp 13) (by rfl) ho7 (by rfl) news _ _ _ (by rfl) HL.out (fun hp => by obtain ⟨ad, e, hc⟩ := HS.out hp; exact ⟨ad, e, fun j u hu => (World.cell?_of_block (hg1.block _ (block_lt_of_cell (hc j u hu)))).trans (hc j u hu)⟩) H1.out B1.out B2.out hg1.le ?_
    intro v' w' G1 G2 G3 G4
    simp only [Nat.zero_add, List.nil_append] at G1
    obtain ⟨A', c', rfl⟩ := own_form G1
    exact hK.out _ w' (KpC.of_touch (by decide) (Touch.of_grown ho7 G2)) ⟨Below.trans hg1 G4, A', c', rfl, news, G1, Chunk.mono (fun _ _ h => CeStr.any h) HCH.out⟩ trivial
  case sb8 =>
    refine OpStepQ.on 2 (by kernel_rfl) (by kernel_rfl) ?_
    intro x u hg hd K hK
    change Kp W u ∧ ∃ A k, x 7 = .slice A c.texts.length k ∧ OwnL CeStr 1 9 u W.heap.size (.slice A c.texts.length k) c.texts at hg
    clear hd
    obtain ⟨hg1, A8, k8, e8, ho8⟩ := hg
    refine ⟨?_⟩
    simp only [putsFrom, Act.put, List.setIfInBounds_toArray, List.set_cons_zero, List.set_cons_succ, Nat.reduceAdd, e8] at hK ⊢
    go_simp
    exact hK.out _ _ (KpC.of_kp (Kp.refl _)) ⟨hg1, A8, k8, rfl, ho8⟩ trivial
  case sb9 =>
    refine OpStepQ.off 0 3 (by kernel_rfl) (by kernel_rfl) ?_
    intro x u p hp hg hd K hK
    clear hd
    have hle : W.heap.size ≤ u.heap.size := by
      rcases p with _ | _ | _ | _ | p
      · exact hg.le
      · exact hg.1.le
      · exact hg.1.le
      · exact hg.1.le
      · omega
    clear hg
    refine ⟨?_⟩
    simp only [putsFrom, Act.put, List.setIfInBounds_toArray, List.set_cons_zero, List.set_cons_succ, Nat.reduceAdd] at hK ⊢
    go_simp
    exact hK.out _ _ ((Kp.refl _).alloc _) ⟨_, _, _, rfl, hle, blk_new _ _⟩
  case sb10 =>
    refine OpStepQ.on 3 (by kernel_rfl) (by kernel_rfl) ?_
    intro x u hg hd K hK
    change Kp W u ∧ ∃ A k, x 8 = .agg #[.slice none 0 0, .slice A c.texts.length k] ∧ OwnL CeStr 1 9 u W.heap.size (.slice A c.texts.length k) c.texts at hg
    have d9 : BoxC W.heap.size (x 9) u := And.left (And.right hd)
    clear hd
    obtain ⟨hg1, A8, k8, e8, ho8⟩ := hg
    obtain ⟨b9, c1, c2, e9, hb9, hx9⟩ := d9
    have s0 := blk_cell (o := 0) (v := c1) hx9 rfl
    have s1 := blk_cell (o := 1) (v := c2) hx9 rfl
    have f0 := blk_free (o := 0) hx9
    have f1 := blk_free (o := 1) hx9
    have sl := blk_lt hx9
    refine ⟨?_⟩
    simp only [putsFrom, Act.put, List.setIfInBounds_toArray, List.set_cons_zero, List.set_cons_succ, Nat.reduceAdd, e8, e9] at hK ⊢
    go_simp
    have ht := (rowTouch (o := 0) hx9 (.slice none 0 0)).trans (rowTouch (o := 1) (blk_set (o := 0) hx9 (.slice none 0 0)) (.slice A8 c.texts.length k8))
    exact hK.out undef _ (KpC.of_set hx9 _ _) ⟨(hg1.setCell (p := ⟨b9, 0, none⟩) hb9 _).setCell (p := ⟨b9, 1, none⟩) hb9 _, b9, A8, k8, e9, hb9, blk_set (o := 1) (blk_set (o := 0) hx9 _) _, ownL_touch (by decide) (fun _ _ h => CeStr.any h) ho8 ht⟩ trivial
  intro x u hg he
  have d0 : (x 0) = .pointer (some ⟨n0, 1, none⟩) := And.left he
  have d1 : (x 1) = .slice At c.texts.length ct := And.left (And.right he)
  have d2 : (x 2) = .int .i64 (c.texts.length : Int) := And.left (And.right (And.right he))
  have d3 : (x 3) = .int .i64 ((c.texts.length : Int) + 2) := And.left (And.right (And.right (And.right he)))
  have d5 : (x 5) = .pointer (some ⟨n0, 1, none⟩) := And.left (And.right (And.right (And.right (And.right (And.right he)))))
  have d6 : (x 6) = .slice At c.texts.length ct := And.left (And.right (And.right (And.right (And.right (And.right (And.right he))))))
  have d9 : BoxC W.heap.size (x 9) u := And.left (And.right (And.right (And.right (And.right (And.right (And.right (And.right (And.right (And.right he)))))))))
  clear he
  change Kp W u ∧ ∃ b A k, x 9 = .pointer (some ⟨b, 0, none⟩) ∧ W.heap.size ≤ b ∧ u.heap[b]? = some (.cells #[.slice none 0 0, .slice A c.texts.length k] 25 (0, 0)) ∧ OwnL CeStr 1 9 u W.heap.size (.slice A c.texts.length k) c.texts at hg
  obtain ⟨hgk, b3, A3, k3, e9, hb3, hx3, ho3⟩ := hg
  refine ⟨?_⟩
  simp only [putsFrom, Act.put, List.setIfInBounds_toArray, List.set_cons_zero, List.set_cons_succ, Nat.reduceAdd, d0, d1, d2, d3, d5, d6, e9]
  clear d0 d1 d2 d3 d5 d6
  obtain ⟨W1, hW1⟩ : ∃ W1, W1 = u := ⟨_, rfl⟩
  rw [← hW1] at hgk hx3 ho3 ⊢
  have HK1 := hid hgk; have HX3 := hid hx3; have HO3 := hid ho3
  have HB3 := hid hb3
  clear hW1 hgk hx3 ho3 hb3 e9 HS HL HMK HMK2 H1 B1 B2 B3 kw
  generalize x 4 = y4
  generalize x 7 = y7
  generalize x 8 = y8
  clear d9
  clear x u
  have HL3 := hid (blk_lt HX3.out)
  have BF := hid (show ∀ g, (Value.slice A3 c.texts.length k3).ownBlock = some g → g < W1.heap.size from fun g hg => by obtain ⟨xs, q, _⟩ := HO3.out; exact (q.lt g hg).2)
  have B1 := hid (show c.texts.length + 1 ≤ maxLen by unfold maxLen; omega)
  have B2 := hid (show (c.texts.length + 1) * 16 ≤ 140737488355328 by omega)
  go_upto_region 2 with fail
  refine wp_region_phase [3, 7, 9] [(0, 0), (0, 0), (0, 0), (0, 0), (0, 1), (0, 1), (0, 1), (0, 0), (0, 2), (0, 0)] (KpF W1.heap.size) [[], [0], [], [1, 2], [], [4], [5], [3, 6], [], [7, 8]]
    (fun (p : Nat) (x : Nat → Value) (u : World) => match p with | 0 => Kp W u ∧ u.heap[b3]? = some (.cells #[.slice none 0 0, .slice A3 c.texts.length k3] 25 (0, 0)) ∧ OwnL CeStr 1 9 u W.heap.size (.slice A3 c.texts.length k3) c.texts ∧ W1.heap.size ≤ u.heap.size | 1 => Kp W u ∧ u.heap[b3]? = some (.cells #[.slice none 0 0, .slice A3 c.texts.length k3] 25 (0, 0)) ∧ ∃ g k, x 3 = .slice (some ⟨g, 0, none⟩) (c.texts.length + 1) k ∧ c.texts.length + 1 ≤ k ∧ RmO CeStr 1 9 [.string spareB] u W.heap.size (.slice (some ⟨g, 0, none⟩) c.texts.length k) c.texts | 2 => Kp W u ∧ u.heap[b3]? = some (.cells #[.slice none 0 0, .slice A3 c.texts.length k3] 25 (0, 0)) ∧ ∃ g k, x 7 = .slice (some ⟨g, 0, none⟩) c.texts.length k ∧ RmO CeStr 1 9 [.string spareB] u W.heap.size (.slice (some ⟨g, 0, none⟩) c.texts.length k) c.texts | _ => Kp W u ∧ ∃ g k, u.heap[b3]? = some (.cells #[.slice none 0 0, .slice (some ⟨g, 0, none⟩) c.texts.length k] 25 (0, 0)) ∧ RmO CeStr 1 9 [.string spareB] u W.heap.size (.slice (some ⟨g, 0, none⟩) c.texts.length k) c.texts)
    [fun (y : Value) (u : World) => y = (.pointer (some ⟨b3, 1, none⟩) : Value),
     fun (y : Value) (u : World) => y = (.slice A3 c.texts.length k3 : Value),
     fun (y : Value) (u : World) => LitAt W1.heap.size 9 #[.string ⟨#[115, 112, 97, 114, 101]⟩] y u,
     fun (y : Value) (u : World) => True,
     fun (y : Value) (u : World) => y = (.pointer (some ⟨n0, 1, none⟩) : Value),
     fun (y : Value) (u : World) => y = (.slice At c.texts.length ct : Value),
     fun (y : Value) (u : World) => y = (.int .i64 (c.texts.length : Int) : Value),
     fun (y : Value) (u : World) => True,
     fun (y : Value) (u : World) => y = (.pointer (some ⟨b3, 1, none⟩) : Value),
     fun (y : Value) (u : World) => True]
    (by kernel_rfl) (by kernel_rfl) (by kernel_rfl) (by kernel_rfl) (by kernel_rfl) (by kernel_rfl) (fun _ _ hk => KpF.of_kp hk) (⟨HK1.out.drew, HX3.out, HO3.out.kp CeStr.kp (Kp.refl _).drew, Nat.le_refl _⟩) ?hKc ?hXc ⟨fun _ _ _ _ h => h, fun _ _ _ _ h => h, fun _ _ _ hk h => h.keep hk, fun _ _ _ _ _ => trivial, fun _ _ _ _ h => h, fun _ _ _ _ h => h, fun _ _ _ _ h => h, fun _ _ _ _ _ => trivial, fun _ _ _ _ h => h, fun _ _ _ _ _ => trivial, trivial⟩ ⟨?sc0, ?sc1, ?sc2, ?sc3, ?sc4, ?sc5, ?sc6, ?sc7, ?sc8, ?sc9, trivial⟩ ?hEc
  case hKc =>
    intro p x w w' hk h
    rcases p with _ | _ | _ | p
    · exact ⟨h.1.trans hk, (hk.block _ (blk_lt h.2.1)).trans h.2.1, h.2.2.1.kp CeStr.kp hk, Nat.le_trans h.2.2.2 hk.le⟩
    · exact ⟨h.1.trans hk, (hk.block _ (blk_lt h.2.1)).trans h.2.1, by obtain ⟨g, k, h1, h2, h3⟩ := h.2.2; exact ⟨g, k, h1, h2, h3.kp CeStr.kp hk⟩⟩
    · exact ⟨h.1.trans hk, (hk.block _ (blk_lt h.2.1)).trans h.2.1, by obtain ⟨g, k, h1, h2⟩ := h.2.2; exact ⟨g, k, h1, h2.kp CeStr.kp hk⟩⟩
    · exact ⟨h.1.trans hk, by obtain ⟨g, k, h1, h2⟩ := h.2; exact ⟨g, k, (hk.block _ (blk_lt h1)).trans h1, h2.kp CeStr.kp hk⟩⟩
  case hXc =>
    intro p x i v w hi h
    have e0 : upd x i v 3 = x 3 := if_neg (fun hh => hi (by rw [← hh]; decide))
    have e1 : upd x i v 7 = x 7 := if_neg (fun hh => hi (by rw [← hh]; decide))
    have e2 : upd x i v 9 = x 9 := if_neg (fun hh => hi (by rw [← hh]; decide))
    rcases p with _ | _ | _ | p
    · first | exact h | (simp only [e0, e1, e2]; exact h)
    · first | exact h | (simp only [e0, e1, e2]; exact h)
    · first | exact h | (simp only [e0, e1, e2]; exact h)
    · first | exact h | (simp only [e0, e1, e2]; exact h)
  case sc0 =>
    refine OpStepQ.off 0 0 (by kernel_rfl) (by kernel_rfl) ?_
    intro x u p hp hg hd K hK
    obtain rfl : p = 0 := by omega
    change Kp W u ∧ u.heap[b3]? = some (.cells #[.slice none 0 0, .slice A3 c.texts.length k3] 25 (0, 0)) ∧ OwnL CeStr 1 9 u W.heap.size (.slice A3 c.texts.length k3) c.texts ∧ W1.heap.size ≤ u.heap.size at hg
    clear hd
    refine ⟨?_⟩
    simp only [putsFrom, Act.put, List.setIfInBounds_toArray, List.set_cons_zero, List.set_cons_succ, Nat.reduceAdd] at hK ⊢
    go_simp
    exact hK.out _ _ (Kp.refl _) rfl
  case sc1 =>
    refine OpStepQ.off 0 0 (by kernel_rfl) (by kernel_rfl) ?_
    intro x u p hp hg hd K hK
    obtain rfl : p = 0 := by omega
    change Kp W u ∧ u.heap[b3]? = some (.cells #[.slice none 0 0, .slice A3 c.texts.length k3] 25 (0, 0)) ∧ OwnL CeStr 1 9 u W.heap.size (.slice A3 c.texts.length k3) c.texts ∧ W1.heap.size ≤ u.heap.size at hg
    have d0 : (x 0) = .pointer (some ⟨b3, 1, none⟩) := And.left hd
    clear hd
    have q := blk_cell (o := 1) (v := Value.slice A3 c.texts.length k3) hg.2.1 rfl
    clear hg
    refine ⟨?_⟩
    simp only [putsFrom, Act.put, List.setIfInBounds_toArray, List.set_cons_zero, List.set_cons_succ, Nat.reduceAdd, d0] at hK ⊢
    go_simp
    exact hK.out _ _ (Kp.refl _) rfl
  case sc2 =>
    refine OpStepQ.off 0 0 (by kernel_rfl) (by kernel_rfl) ?_
    intro x u p hp hg hd K hK
    obtain rfl : p = 0 := by omega
    change Kp W u ∧ u.heap[b3]? = some (.cells #[.slice none 0 0, .slice A3 c.texts.length k3] 25 (0, 0)) ∧ OwnL CeStr 1 9 u W.heap.size (.slice A3 c.texts.length k3) c.texts ∧ W1.heap.size ≤ u.heap.size at hg
    clear hd
    refine ⟨?_⟩
    simp only [putsFrom, Act.put, List.setIfInBounds_toArray, List.set_cons_zero, List.set_cons_succ, Nat.reduceAdd] at hK ⊢
    go_simp
    exact hK.out _ _ ((Kp.refl _).alloc _) ⟨_, rfl, hg.2.2.2, blk_new _ _⟩
  case sc3 =>
    refine OpStepQ.on 0 (by kernel_rfl) (by kernel_rfl) ?_
    intro x u hg hd K hK
    change Kp W u ∧ u.heap[b3]? = some (.cells #[.slice none 0 0, .slice A3 c.texts.length k3] 25 (0, 0)) ∧ OwnL CeStr 1 9 u W.heap.size (.slice A3 c.texts.length k3) c.texts ∧ W1.heap.size ≤ u.heap.size at hg
    have d1 : (x 1) = .slice A3 c.texts.length k3 := And.left hd
    have d2 : LitAt W1.heap.size 9 #[.string ⟨#[115, 112, 97, 114, 101]⟩] (x 2) u := And.left (And.right hd)
    clear hd
    obtain ⟨b, e6, hb6, hlit⟩ := d2
    obtain ⟨xs, l1, l2⟩ := hg.2.2.1
    refine ⟨?_⟩
    simp only [putsFrom, Act.put, List.setIfInBounds_toArray, List.set_cons_zero, List.set_cons_succ, Nat.reduceAdd, d1, e6] at hK ⊢
    rw [if_pos (by simp [Region.wanted])]
    refine wp_appP elStrW (.tmp 17) (.tmp 18) (by rfl) l1 (by rfl) [.string ⟨#[115, 112, 97, 114, 101]⟩] _ 1 1 (by rfl) rfl (fun _ => ⟨_, rfl, lit_src hlit⟩) (by intro u hu; simp at hu; subst hu; rfl) B1.out B2.out hg.1.le ?_
    intro v' w' G1 G2 G3 G4
    obtain ⟨g', c', rfl, hgc⟩ := rowSome G1 (Nat.succ_pos _)
    have ht := Touch.of_grown l1 G2
    exact hK.out _ w' (KpF.of_grown G2 BF.out) ⟨Below.trans hg.1 G4, ht.2 _ _ hg.2.1 (fun cs fr q => by injection q with _ q _; exact absurd q (by decide)), g', c', rfl, hgc, g', c', xs, rfl, hgc, G1, Chunk.mono (fun _ _ h => CeStr.any h) l2⟩ trivial
  case sc4 =>
    refine OpStepQ.off 0 1 (by kernel_rfl) (by kernel_rfl) ?_
    intro x u p hp hg hd K hK
    clear hd
    refine ⟨?_⟩
    simp only [putsFrom, Act.put, List.setIfInBounds_toArray, List.set_cons_zero, List.set_cons_succ, Nat.reduceAdd] at hK ⊢
    go_simp
    exact hK.out _ _ (Kp.refl _) rfl
  case sc5 =>
    refine OpStepQ.off 0 1 (by kernel_rfl) (by kernel_rfl) ?_
    intro x u p hp hg hd K hK
    have d4 : (x 4) = .pointer (some ⟨n0, 1, none⟩) := And.left hd
    clear hd
    have hgk : Kp W u := by
      rcases p with _ | _ | p
      · exact hg.1
      · exact hg.1
      · omega
    have q := cell_kp hgk ql q1
    clear hg hgk
    refine ⟨?_⟩
    simp only [putsFrom, Act.put, List.setIfInBounds_toArray, List.set_cons_zero, List.set_cons_succ, Nat.reduceAdd, d4] at hK ⊢
    go_simp
    exact hK.out _ _ (Kp.refl _) rfl
  case sc6 =>
    refine OpStepQ.off 0 1 (by kernel_rfl) (by kernel_rfl) ?_
    intro x u p hp hg hd K hK
    have d5 : (x 5) = .slice At c.texts.length ct := And.left hd
    clear hd
    refine ⟨?_⟩
    simp only [putsFrom, Act.put, List.setIfInBounds_toArray, List.set_cons_zero, List.set_cons_succ, Nat.reduceAdd, d5] at hK ⊢
    go_simp
    exact hK.out _ _ (Kp.refl _) rfl
  case sc7 =>
    refine OpStepQ.on 1 (by kernel_rfl) (by kernel_rfl) ?_
    intro x u hg hd K hK
    change Kp W u ∧ u.heap[b3]? = some (.cells #[.slice none 0 0, .slice A3 c.texts.length k3] 25 (0, 0)) ∧ ∃ g k, x 3 = .slice (some ⟨g, 0, none⟩) (c.texts.length + 1) k ∧ c.texts.length + 1 ≤ k ∧ RmO CeStr 1 9 [.string spareB] u W.heap.size (.slice (some ⟨g, 0, none⟩) c.texts.length k) c.texts at hg
    have d6 : (x 6) = .int .i64 (c.texts.length : Int) := And.left (And.right hd)
    clear hd
    obtain ⟨hg1, hg2, g7, k7, e7, hk7, hr7⟩ := hg
    have i1 : (c.texts.length : Int) ≤ (k7 : Int) := by omega
    have i2 : (0 : Int) ≤ (c.texts.length : Int) := by omega
    refine ⟨?_⟩
    simp only [putsFrom, Act.put, List.setIfInBounds_toArray, List.set_cons_zero, List.set_cons_succ, Nat.reduceAdd, d6, e7] at hK ⊢
    go_simp
    exact hK.out _ _ (KpF.of_kp (Kp.refl _)) ⟨hg1, hg2, g7, k7, rfl, hr7⟩ trivial
  case sc8 =>
    refine OpStepQ.off 0 2 (by kernel_rfl) (by kernel_rfl) ?_
    intro x u p hp hg hd K hK
    clear hd
    refine ⟨?_⟩
    simp only [putsFrom, Act.put, List.setIfInBounds_toArray, List.set_cons_zero, List.set_cons_succ, Nat.reduceAdd] at hK ⊢
    go_simp
    exact hK.out _ _ (Kp.refl _) rfl
  case sc9 =>
    refine OpStepQ.on 2 (by kernel_rfl) (by kernel_rfl) ?_
    intro x u hg hd K hK
    change Kp W u ∧ u.heap[b3]? = some (.cells #[.slice none 0 0, .slice A3 c.texts.length k3] 25 (0, 0)) ∧ ∃ g k, x 7 = .slice (some ⟨g, 0, none⟩) c.texts.length k ∧ RmO CeStr 1 9 [.string spareB] u W.heap.size (.slice (some ⟨g, 0, none⟩) c.texts.length k) c.texts at hg
    have d8 : (x 8) = .pointer (some ⟨b3, 1, none⟩) := And.left (And.right hd)
    clear hd
    obtain ⟨hg1, hg2, g7, k7, e7, hr7⟩ := hg
    have s1 := blk_cell (o := 1) (v := Value.slice A3 c.texts.length k3) hg2 rfl
    have f1 := blk_free (o := 1) hg2
    have sl := blk_lt hg2
    refine ⟨?_⟩
    simp only [putsFrom, Act.put, List.setIfInBounds_toArray, List.set_cons_zero, List.set_cons_succ, Nat.reduceAdd, d8, e7] at hK ⊢
    go_simp
    exact hK.out undef _ (KpF.setCell HL3.out _) ⟨hg1.setCell (p := ⟨b3, 1, none⟩) HB3.out _, g7, k7, blk_set (o := 1) hg2 _, hr7.touch (by decide) (fun _ _ h => CeStr.any h) (rowTouch (o := 1) hg2 _)⟩ trivial
  intro x u hg he
  have d0 : (x 0) = .pointer (some ⟨b3, 1, none⟩) := And.left he
  have d1 : (x 1) = .slice A3 c.texts.length k3 := And.left (And.right he)
  have d2 : LitAt W1.heap.size 9 #[.string ⟨#[115, 112, 97, 114, 101]⟩] (x 2) u := And.left (And.right (And.right he))
  have d4 : (x 4) = .pointer (some ⟨n0, 1, none⟩) := And.left (And.right (And.right (And.right (And.right he))))
  have d5 : (x 5) = .slice At c.texts.length ct := And.left (And.right (And.right (And.right (And.right (And.right he)))))
  have d6 : (x 6) = .int .i64 (c.texts.length : Int) := And.left (And.right (And.right (And.right (And.right (And.right (And.right he))))))
  have d8 : (x 8) = .pointer (some ⟨b3, 1, none⟩) := And.left (And.right (And.right (And.right (And.right (And.right (And.right (And.right (And.right he))))))))
  clear he
  change Kp W u ∧ ∃ g k, u.heap[b3]? = some (.cells #[.slice none 0 0, .slice (some ⟨g, 0, none⟩) c.texts.length k] 25 (0, 0)) ∧ RmO CeStr 1 9 [.string spareB] u W.heap.size (.slice (some ⟨g, 0, none⟩) c.texts.length k) c.texts at hg
  refine ⟨?_⟩
  simp only [putsFrom, Act.put, List.setIfInBounds_toArray, List.set_cons_zero, List.set_cons_succ, Nat.reduceAdd, d0, d1, d4, d5, d6, d8]
  clear d0 d1 d4 d5 d6 d8
  obtain ⟨hgk, g4, k4, hx4, hr4⟩ := hg
  obtain ⟨W2, hW2⟩ : ∃ W2, W2 = u := ⟨_, rfl⟩
  rw [← hW2] at hgk hx4 hr4 ⊢
  have HK2 := hid hgk; have HX4 := hid hx4; have HR4 := hid hr4
  have HL2 := hid (show W1.heap.size ≤ W1.heap.size from Nat.le_refl _)
  clear hW2 hgk hx4 hr4 HX3 HO3 HL3 BF B1 B2 HK1 HL2
  have hmk := made_run elFn (c.funcs.length + 1) (by omega) (by unfold maxLen; omega)
  obtain ⟨MK, hMK, hmk⟩ := hmk
  have hmk2 : ∀ u : World, (Instr.makeSlice 22 (.int .i64 0) (.int .i64 ((c.funcs.length : Int) + 1))).run Try.prog u = .ok (.slice (some ⟨u.heap.size, 0, none⟩) 0 (c.funcs.length + 1)) (u.alloc (.cells MK 45)) := fun u => by
    have h := hmk u
    rwa [show ((c.funcs.length + 1 : Nat) : Int) = (c.funcs.length : Int) + 1 by omega] at h
  have kw : IntKind.i64.wrap ((c.funcs.length : Int) + 1) = (c.funcs.length : Int) + 1 := by rw [IntKind.wrap_i64]; omega
  have B3 := hid (show c.funcs.length + 1 ≤ maxLen by unfold maxLen; omega)
  have HMK := hid hMK
  have p0 := cell_kp HK2.out ql q0
  have pl := Nat.lt_of_lt_of_le ql HK2.out.le
  have s0 := blk_cell (o := 0) (v := Value.slice none 0 0) (blk_old HX4.out (.cells MK 45)) rfl
  have f0 := blk_free (o := 0) (blk_old HX4.out (.cells MK 45))
  have sl := blk_lt (blk_old HX4.out (.cells MK 45))
  clear hMK hmk
  go_upto_region 3 with fail
  go_upto_region 4 with fail
  have HS0 : Hid (RmS W b3 (.slice (some ⟨W2.heap.size, 0, none⟩) 0 (c.funcs.length + 1)) (.slice (some ⟨g4, 0, none⟩) c.texts.length k4) c 0 ((W2.alloc (.cells MK 45)).setCell ⟨b3, 0, none⟩ (.slice (some ⟨W2.heap.size, 0, none⟩) 0 (c.funcs.length + 1)))) := by
    have hb := blk_old HX4.out (.cells MK 45)
    have hs := rowTouch (o := 0) hb (.slice (some ⟨W2.heap.size, 0, none⟩) 0 (c.funcs.length + 1))
    refine hid ⟨(HK2.out.alloc _).setCell (p := ⟨b3, 0, none⟩) HB3.out _, HB3.out, blk_set hb _, ⟨[], ?_, rfl⟩, (HR4.out.kp CeStr.kp ((Kp.refl _).alloc _)).touch (by decide) (fun _ _ h => CeStr.any h) hs⟩
    exact ownsRow_touch (by decide) (World.ownsRow_made W2 MK (c.funcs.length + 1) (by simpa using HK2.out.le) B3.out HMK.out) hs
  clear p0 pl s0 f0 sl kw hmk2
  generalize ((W2.alloc (.cells MK 45)).setCell ⟨b3, 0, none⟩ (.slice (some ⟨W2.heap.size, 0, none⟩) 0 (c.funcs.length + 1))) = W3 at HS0 ⊢
  go_wp2
  generalize W2.heap.size = g2 at HS0 ⊢
  clear HMK B3 HX4 HR4 HK2
  go_loopw [4] (fun i wr => ∃ (k : Nat) (A : Option Addr) (cc : Nat), k ≤ c.funcs.length ∧ i = .int .i64 (k : Int) ∧ RmS W b3 (.slice A k cc) (.slice (some ⟨g4, 0, none⟩) c.texts.length k4) c k wr) (fun i _ => c.funcs.length - (intOf i).toNat)
  case atStart => exact ⟨0, _, _, Nat.zero_le _, rfl, HS0.out⟩
  case round =>
    obtain ⟨k, Ad, cd, hk, rfl, hrs⟩ := hrel
    have HR := hid hrs
    have p0 := cell_kp hrs.kp ql q0
    have pl := Nat.lt_of_lt_of_le ql hrs.kp.le
    clear hrs
    by_cases hlt : k < c.funcs.length
    · have i1 : (k : Int) < (c.funcs.length : Int) := by omega
      have k1 : IntKind.i64.wrap ((k : Int) + 1) = (k : Int) + 1 := by have := HFL.out; rw [IntKind.wrap_i64]; omega
      obtain ⟨f, hf⟩ : ∃ f, c.funcs[k]? = some f := ⟨_, List.getElem?_eq_getElem hlt⟩
      obtain ⟨b, off, rfl, hbl, lins, m0, m1, m2, m3, m4, hns, hp_, hs_, hc_, hins, hil⟩ := at_fn (HF.out.kp CeFn.kp (HK0.out.trans HR.out.kp)) hf
      obtain ⟨Ai, ci, rfl, _⟩ := hins.form
      have HFK := hid hf
      have HOF := hid (show okFnB f from ⟨hns, hp_, hs_, hc_, hil⟩)
      have HIL := hid hil
      have HIN := hid hins
      have HBF := hid (blk_new wr (.cells #[.string f.name, .int .i64 f.params, .int .i64 f.slots, .int .i64 f.caps, .slice Ai f.ins.length ci] 45))
      have HKF := hid (show Kp wr (wr.alloc (.cells #[.string f.name, .int .i64 f.params, .int .i64 f.slots, .int .i64 f.caps, .slice Ai f.ins.length ci] 45)) from (Kp.refl _).alloc _)
      have HLF := hid (show wr.heap.size + 1 ≤ (wr.alloc (.cells #[.string f.name, .int .i64 f.params, .int .i64 f.slots, .int .i64 f.caps, .slice Ai f.ins.length ci] 45)).heap.size by simp)
      clear hf hins hns hp_ hs_ hc_ hil
      go_upto_region 8 with fail
      generalize (wr.alloc (.cells #[.string f.name, .int .i64 f.params, .int .i64 f.slots, .int .i64 f.caps, .slice Ai f.ins.length ci] 45)) = W5 at HBF HKF HLF ⊢
      clear p0 pl m0 m1 m2 m3 m4 hbl i1
      obtain ⟨nf, hnf⟩ : ∃ nf, wr.heap.size = nf := ⟨_, rfl⟩
      have HNF := hid hnf
      rw [hnf] at HBF HLF ⊢
      clear hnf
      have hinw := HIN.out.kp CeIns.kp HKF.out
      obtain ⟨news, hch, hnl, hsrc⟩ := hinw.src
      have HCH := hid hch
      have HS := hid hsrc
      have HL := hid hch.len
      clear hch hsrc hnl hinw
      obtain ⟨MK, hMK, hmk⟩ := made_run elIns (f.ins.length + 2) (by have := HIL.out; omega) (by have := HIL.out; unfold maxLen; omega)
      have HMK2 := hid (show ∀ u : World, (Instr.makeSlice 43 (.int .i64 0) (.int .i64 ((f.ins.length : Int) + 2))).run Try.prog u = .ok (.slice (some ⟨u.heap.size, 0, none⟩) 0 (f.ins.length + 2)) (u.alloc (.cells MK 64)) from fun u => by
        have h := hmk u
        rwa [show ((f.ins.length + 2 : Nat) : Int) = (f.ins.length : Int) + 2 by omega] at h)
      have HMK := hid hMK
      have H1 := hid (Chunk.one_ (fun cs a h => ins_one cs a h) HCH.out)
      have B1 := hid (show 0 + f.ins.length ≤ maxLen by have := HIL.out; unfold maxLen; omega)
      have B2 := hid (show (0 + f.ins.length) * 48 ≤ 140737488355328 by have := HIL.out; omega)
      have B3 := hid (show f.ins.length + 2 ≤ maxLen by have := HIL.out; unfold maxLen; omega)
      have kw : IntKind.i64.wrap ((f.ins.length : Int) + 2) = (f.ins.length : Int) + 2 := by have := HIL.out; rw [IntKind.wrap_i64]; omega
      clear hmk hMK
      refine wp_region_phase [4, 7, 8] [(0, 0), (0, 0), (0, 0), (0, 0), (0, 0), (0, 1), (0, 1), (0, 0), (0, 0)] (fun _ _ => True) [[], [0], [1], [2], [3], [], [5], [4, 6], [7]]
        (fun (p : Nat) (x : Nat → Value) (u : World) => match p with | 0 => Kp W5 u | 1 => Kp W5 u ∧ ∃ b, x 4 = .slice (some ⟨b, 0, none⟩) 0 (f.ins.length + 2) ∧ u.ownsRow W5.heap.size 64 6 (.slice (some ⟨b, 0, none⟩) 0 (f.ins.length + 2)) 0 [] | 2 => Kp W5 u ∧ ∃ A k, x 7 = .slice A f.ins.length k ∧ OwnL CeIns 6 64 u W5.heap.size (.slice A f.ins.length k) f.ins | _ => Kp W5 u ∧ ∃ A k, x 8 = .slice A f.ins.length k ∧ OwnL CeIns 6 64 u W5.heap.size (.slice A f.ins.length k) f.ins)
        [fun (y : Value) (u : World) => y = (.pointer (some ⟨nf, 4, none⟩) : Value),
         fun (y : Value) (u : World) => y = (.slice Ai f.ins.length ci : Value),
         fun (y : Value) (u : World) => y = (.int .i64 (f.ins.length : Int) : Value),
         fun (y : Value) (u : World) => y = (.int .i64 ((f.ins.length : Int) + 2) : Value),
         fun (y : Value) (u : World) => True,
         fun (y : Value) (u : World) => y = (.pointer (some ⟨nf, 4, none⟩) : Value),
         fun (y : Value) (u : World) => y = (.slice Ai f.ins.length ci : Value),
         fun (y : Value) (u : World) => True,
         fun (y : Value) (u : World) => True]
        (by kernel_rfl) (by kernel_rfl) (by kernel_rfl) (by kernel_rfl) (by kernel_rfl) (by kernel_rfl) (fun _ _ _ => trivial) ((Kp.refl _).drew) ?hKd ?hXd ⟨fun _ _ _ _ h => h, fun _ _ _ _ h => h, fun _ _ _ _ h => h, fun _ _ _ _ h => h, fun _ _ _ _ _ => trivial, fun _ _ _ _ h => h, fun _ _ _ _ h => h, fun _ _ _ _ _ => trivial, fun _ _ _ _ _ => trivial, trivial⟩ ⟨?sd0, ?sd1, ?sd2, ?sd3, ?sd4, ?sd5, ?sd6, ?sd7, ?sd8, trivial⟩ ?hEd
      case hKd =>
        intro p x w w' hk h
        rcases p with _ | _ | _ | p
        · exact h.trans hk
        · exact ⟨h.1.trans hk, by obtain ⟨b, h1, h2⟩ := h.2; exact ⟨b, h1, ownsRow_keep h2 hk⟩⟩
        · exact ⟨h.1.trans hk, by obtain ⟨A, k, h1, h2⟩ := h.2; exact ⟨A, k, h1, h2.kp CeIns.kp hk⟩⟩
        · exact ⟨h.1.trans hk, by obtain ⟨A, k, h1, h2⟩ := h.2; exact ⟨A, k, h1, h2.kp CeIns.kp hk⟩⟩
      case hXd =>
        intro p x i v w hi h
        have e0 : upd x i v 4 = x 4 := if_neg (fun hh => hi (by rw [← hh]; decide))
        have e1 : upd x i v 7 = x 7 := if_neg (fun hh => hi (by rw [← hh]; decide))
        have e2 : upd x i v 8 = x 8 := if_neg (fun hh => hi (by rw [← hh]; decide))
        rcases p with _ | _ | _ | p
        · first | exact h | (simp only [e0, e1, e2]; exact h)
        · first | exact h | (simp only [e0, e1, e2]; exact h)
        · first | exact h | (simp only [e0, e1, e2]; exact h)
        · first | exact h | (simp only [e0, e1, e2]; exact h)
      case sd0 =>
        refine OpStepQ.off 0 0 (by kernel_rfl) (by kernel_rfl) ?_
        intro x u p hp hg hd K hK
        obtain rfl : p = 0 := by omega
        change Kp W5 u at hg
        clear hd
        refine ⟨?_⟩
        simp only [putsFrom, Act.put, List.setIfInBounds_toArray, List.set_cons_zero, List.set_cons_succ, Nat.reduceAdd] at hK ⊢
        go_simp
        exact hK.out _ _ (Kp.refl _) rfl
      case sd1 =>
        refine OpStepQ.off 0 0 (by kernel_rfl) (by kernel_rfl) ?_
        intro x u p hp hg hd K hK
        obtain rfl : p = 0 := by omega
        change Kp W5 u at hg
        have d0 : (x 0) = .pointer (some ⟨nf, 4, none⟩) := And.left hd
        clear hd
        have q := blk_cell (o := 4) (v := Value.slice Ai f.ins.length ci) ((hg.block _ (blk_lt HBF.out)).trans HBF.out) rfl
        clear hg
        refine ⟨?_⟩
        simp only [putsFrom, Act.put, List.setIfInBounds_toArray, List.set_cons_zero, List.set_cons_succ, Nat.reduceAdd, d0] at hK ⊢
        go_simp
        exact hK.out _ _ (Kp.refl _) rfl
      case sd2 =>
        refine OpStepQ.off 0 0 (by kernel_rfl) (by kernel_rfl) ?_
        intro x u p hp hg hd K hK
        obtain rfl : p = 0 := by omega
        change Kp W5 u at hg
        have d1 : (x 1) = .slice Ai f.ins.length ci := And.left hd
        clear hd
        refine ⟨?_⟩
        simp only [putsFrom, Act.put, List.setIfInBounds_toArray, List.set_cons_zero, List.set_cons_succ, Nat.reduceAdd, d1] at hK ⊢
        go_simp
        exact hK.out _ _ (Kp.refl _) rfl
      case sd3 =>
        refine OpStepQ.off 0 0 (by kernel_rfl) (by kernel_rfl) ?_
        intro x u p hp hg hd K hK
        obtain rfl : p = 0 := by omega
        change Kp W5 u at hg
        have d2 : (x 2) = .int .i64 (f.ins.length : Int) := And.left hd
        clear hd
        refine ⟨?_⟩
        simp only [putsFrom, Act.put, List.setIfInBounds_toArray, List.set_cons_zero, List.set_cons_succ, Nat.reduceAdd, d2] at hK ⊢
        go_simp
        exact hK.out _ _ (Kp.refl _) rfl
      case sd4 =>
        refine OpStepQ.on 0 (by kernel_rfl) (by kernel_rfl) ?_
        intro x u hg hd K hK
        change Kp W5 u at hg
        have d3 : (x 3) = .int .i64 ((f.ins.length : Int) + 2) := And.left hd
        clear hd
        have q9 := HMK2.out u
        refine ⟨?_⟩
        simp only [putsFrom, Act.put, List.setIfInBounds_toArray, List.set_cons_zero, List.set_cons_succ, Nat.reduceAdd, d3] at hK ⊢
        go_simp
        exact hK.out _ _ trivial ⟨hg.alloc _, _, rfl, World.ownsRow_made u MK (f.ins.length + 2) (by simpa using hg.le) B3.out HMK.out⟩ trivial
      case sd5 =>
        refine OpStepQ.off 0 1 (by kernel_rfl) (by kernel_rfl) ?_
        intro x u p hp hg hd K hK
        clear hd
        refine ⟨?_⟩
        simp only [putsFrom, Act.put, List.setIfInBounds_toArray, List.set_cons_zero, List.set_cons_succ, Nat.reduceAdd] at hK ⊢
        go_simp
        exact hK.out _ _ (Kp.refl _) rfl
      case sd6 =>
        refine OpStepQ.off 0 1 (by kernel_rfl) (by kernel_rfl) ?_
        intro x u p hp hg hd K hK
        have d5 : (x 5) = .pointer (some ⟨nf, 4, none⟩) := And.left hd
        clear hd
        have hgk : Kp W5 u := by
          rcases p with _ | _ | p
          · exact hg
          · exact hg.1
          · omega
        have q := blk_cell (o := 4) (v := Value.slice Ai f.ins.length ci) ((hgk.block _ (blk_lt HBF.out)).trans HBF.out) rfl
        clear hg hgk
        refine ⟨?_⟩
        simp only [putsFrom, Act.put, List.setIfInBounds_toArray, List.set_cons_zero, List.set_cons_succ, Nat.reduceAdd, d5] at hK ⊢
        go_simp
        exact hK.out _ _ (Kp.refl _) rfl
      case sd7 =>
        refine OpStepQ.on 1 (by kernel_rfl) (by kernel_rfl) ?_
        intro x u hg hd K hK
        change Kp W5 u ∧ ∃ b, x 4 = .slice (some ⟨b, 0, none⟩) 0 (f.ins.length + 2) ∧ u.ownsRow W5.heap.size 64 6 (.slice (some ⟨b, 0, none⟩) 0 (f.ins.length + 2)) 0 [] at hg
        have d6 : (x 6) = .slice Ai f.ins.length ci := And.left (And.right hd)
        clear hd
        obtain ⟨hg1, b7, e7, ho7⟩ := hg
        refine ⟨?_⟩
        simp only [putsFrom, Act.put, List.setIfInBounds_toArray, List.set_cons_zero, List.set_cons_succ, Nat.reduceAdd, d6, e7] at hK ⊢
        rw [if_pos (by simp [Region.wanted])]
        refine wp_appP elIns (.tmp 47) (.tmp 49) (by rfl) ho7 (by rfl) news _ _ _ (by rfl) HL.out (fun hp => by obtain ⟨ad, e, hc⟩ := HS.out hp; exact ⟨ad, e, fun j u hu => (World.cell?_of_block (hg1.block _ (block_lt_of_cell (hc j u hu)))).trans (hc j u hu)⟩) H1.out B1.out B2.out hg1.le ?_
        intro v' w' G1 G2 G3 G4
        simp only [Nat.zero_add, List.nil_append] at G1
        obtain ⟨A', c', rfl⟩ := own_form G1
        exact hK.out _ w' trivial ⟨Below.trans hg1 G4, A', c', rfl, news, G1, Chunk.mono (fun _ _ h => CeIns.any h) HCH.out⟩ trivial
      case sd8 =>
        refine OpStepQ.on 2 (by kernel_rfl) (by kernel_rfl) ?_
        intro x u hg hd K hK
        change Kp W5 u ∧ ∃ A k, x 7 = .slice A f.ins.length k ∧ OwnL CeIns 6 64 u W5.heap.size (.slice A f.ins.length k) f.ins at hg
        clear hd
        obtain ⟨hg1, A8, k8, e8, ho8⟩ := hg
        refine ⟨?_⟩
        simp only [putsFrom, Act.put, List.setIfInBounds_toArray, List.set_cons_zero, List.set_cons_succ, Nat.reduceAdd, e8] at hK ⊢
        go_simp
        exact hK.out _ _ trivial ⟨hg1, A8, k8, rfl, ho8⟩ trivial
      intro x u hg he
      have d0 : (x 0) = .pointer (some ⟨nf, 4, none⟩) := And.left he
      have d1 : (x 1) = .slice Ai f.ins.length ci := And.left (And.right he)
      have d2 : (x 2) = .int .i64 (f.ins.length : Int) := And.left (And.right (And.right he))
      have d3 : (x 3) = .int .i64 ((f.ins.length : Int) + 2) := And.left (And.right (And.right (And.right he)))
      have d5 : (x 5) = .pointer (some ⟨nf, 4, none⟩) := And.left (And.right (And.right (And.right (And.right (And.right he)))))
      have d6 : (x 6) = .slice Ai f.ins.length ci := And.left (And.right (And.right (And.right (And.right (And.right (And.right he))))))
      clear he
      change Kp W5 u ∧ ∃ A k, x 8 = .slice A f.ins.length k ∧ OwnL CeIns 6 64 u W5.heap.size (.slice A f.ins.length k) f.ins at hg
      obtain ⟨hgk, A8, k8, e8, ho8⟩ := hg
      refine ⟨?_⟩
      simp only [putsFrom, Act.put, List.setIfInBounds_toArray, List.set_cons_zero, List.set_cons_succ, Nat.reduceAdd, d0, d1, d2, d3, d5, d6, e8]
      clear d0 d1 d2 d3 d5 d6
      obtain ⟨W8, hW8⟩ : ∃ W8, W8 = u := ⟨_, rfl⟩
      rw [← hW8] at hgk ho8 ⊢
      have HK8 := hid hgk; have HO8 := hid ho8
      clear hW8 hgk ho8 e8 HS HL HMK HMK2 H1 B1 B2 B3 kw HCH
      generalize x 4 = z4
      generalize x 7 = z7
      clear x u
      have BF := hid (show ∀ g, (Value.slice A8 f.ins.length k8).ownBlock = some g → g < W8.heap.size from fun g hg => by obtain ⟨xs, q, _⟩ := HO8.out; exact (q.lt g hg).2)
      have BN := hid (show nf < W8.heap.size by have := HK8.out.le; have := HLF.out; omega)
      have B1 := hid (show f.ins.length + 1 ≤ maxLen by have := HIL.out; unfold maxLen; omega)
      have B2 := hid (show (f.ins.length + 1) * 48 ≤ 140737488355328 by have := HIL.out; omega)
      go_upto_region 9 with fail
      refine wp_region_phase [3, 7, 9] [(0, 0), (0, 0), (0, 0), (0, 0), (0, 1), (0, 1), (0, 1), (0, 0), (0, 2), (0, 0)] (KpF W8.heap.size) [[], [], [1], [0, 2], [], [4], [5], [3, 6], [], [7, 8]]
        (fun (p : Nat) (x : Nat → Value) (u : World) => match p with | 0 => Kp W5 u ∧ OwnL CeIns 6 64 u W5.heap.size (.slice A8 f.ins.length k8) f.ins ∧ W8.heap.size ≤ u.heap.size | 1 => Kp W5 u ∧ ∃ g k, x 3 = .slice (some ⟨g, 0, none⟩) (f.ins.length + 1) k ∧ f.ins.length + 1 ≤ k ∧ RmO CeIns 6 64 mkI u W5.heap.size (.slice (some ⟨g, 0, none⟩) f.ins.length k) f.ins | 2 => Kp W5 u ∧ ∃ g k, x 7 = .slice (some ⟨g, 0, none⟩) f.ins.length k ∧ RmO CeIns 6 64 mkI u W5.heap.size (.slice (some ⟨g, 0, none⟩) f.ins.length k) f.ins | _ => Kp wr u ∧ ∃ g k, u.heap[nf]? = some (.cells #[.string f.name, .int .i64 f.params, .int .i64 f.slots, .int .i64 f.caps, .slice (some ⟨g, 0, none⟩) f.ins.length k] 45 (0, 0)) ∧ RmO CeIns 6 64 mkI u W5.heap.size (.slice (some ⟨g, 0, none⟩) f.ins.length k) f.ins)
        [fun (y : Value) (u : World) => y = (.slice A8 f.ins.length k8 : Value),
         fun (y : Value) (u : World) => y = (.agg #[.int .i64 (-4711), .int .i64 0, .int .i64 0, .int .i64 0, .int .i64 0, .int .i64 0] : Value),
         fun (y : Value) (u : World) => LitAt W8.heap.size 64 #[.int .i64 (-4711), .int .i64 0, .int .i64 0, .int .i64 0, .int .i64 0, .int .i64 0] y u,
         fun (y : Value) (u : World) => True,
         fun (y : Value) (u : World) => y = (.pointer (some ⟨nf, 4, none⟩) : Value),
         fun (y : Value) (u : World) => y = (.slice Ai f.ins.length ci : Value),
         fun (y : Value) (u : World) => y = (.int .i64 (f.ins.length : Int) : Value),
         fun (y : Value) (u : World) => True,
         fun (y : Value) (u : World) => y = (.pointer (some ⟨nf, 4, none⟩) : Value),
         fun (y : Value) (u : World) => True]
        (by kernel_rfl) (by kernel_rfl) (by kernel_rfl) (by kernel_rfl) (by kernel_rfl) (by kernel_rfl) (fun _ _ hk => KpF.of_kp hk) (⟨HK8.out.drew, HO8.out.kp CeIns.kp (Kp.refl _).drew, Nat.le_refl _⟩) ?hKe ?hXe ⟨fun _ _ _ _ h => h, fun _ _ _ _ h => h, fun _ _ _ hk h => h.keep hk, fun _ _ _ _ _ => trivial, fun _ _ _ _ h => h, fun _ _ _ _ h => h, fun _ _ _ _ h => h, fun _ _ _ _ _ => trivial, fun _ _ _ _ h => h, fun _ _ _ _ _ => trivial, trivial⟩ ⟨?se0, ?se1, ?se2, ?se3, ?se4, ?se5, ?se6, ?se7, ?se8, ?se9, trivial⟩ ?hEe
      case hKe =>
        intro p x w w' hk h
        rcases p with _ | _ | _ | p
        · exact ⟨h.1.trans hk, h.2.1.kp CeIns.kp hk, Nat.le_trans h.2.2 hk.le⟩
        · exact ⟨h.1.trans hk, by obtain ⟨g, k, h1, h2, h3⟩ := h.2; exact ⟨g, k, h1, h2, h3.kp CeIns.kp hk⟩⟩
        · exact ⟨h.1.trans hk, by obtain ⟨g, k, h1, h2⟩ := h.2; exact ⟨g, k, h1, h2.kp CeIns.kp hk⟩⟩
        · exact ⟨h.1.trans hk, by obtain ⟨g, k, h1, h2⟩ := h.2; exact ⟨g, k, (hk.block _ (blk_lt h1)).trans h1, h2.kp CeIns.kp hk⟩⟩
      case hXe =>
        intro p x i v w hi h
        have e0 : upd x i v 3 = x 3 := if_neg (fun hh => hi (by rw [← hh]; decide))
        have e1 : upd x i v 7 = x 7 := if_neg (fun hh => hi (by rw [← hh]; decide))
        have e2 : upd x i v 9 = x 9 := if_neg (fun hh => hi (by rw [← hh]; decide))
        rcases p with _ | _ | _ | p
        · first | exact h | (simp only [e0, e1, e2]; exact h)
        · first | exact h | (simp only [e0, e1, e2]; exact h)
        · first | exact h | (simp only [e0, e1, e2]; exact h)
        · first | exact h | (simp only [e0, e1, e2]; exact h)
      case se0 =>
        refine OpStepQ.off 0 0 (by kernel_rfl) (by kernel_rfl) ?_
        intro x u p hp hg hd K hK
        obtain rfl : p = 0 := by omega
        change Kp W5 u ∧ OwnL CeIns 6 64 u W5.heap.size (.slice A8 f.ins.length k8) f.ins ∧ W8.heap.size ≤ u.heap.size at hg
        clear hd
        refine ⟨?_⟩
        simp only [putsFrom, Act.put, List.setIfInBounds_toArray, List.set_cons_zero, List.set_cons_succ, Nat.reduceAdd] at hK ⊢
        go_simp
        exact hK.out _ _ (Kp.refl _) rfl
      case se1 =>
        refine OpStepQ.off 0 0 (by kernel_rfl) (by kernel_rfl) ?_
        intro x u p hp hg hd K hK
        obtain rfl : p = 0 := by omega
        change Kp W5 u ∧ OwnL CeIns 6 64 u W5.heap.size (.slice A8 f.ins.length k8) f.ins ∧ W8.heap.size ≤ u.heap.size at hg
        clear hd
        refine ⟨?_⟩
        simp only [putsFrom, Act.put, List.setIfInBounds_toArray, List.set_cons_zero, List.set_cons_succ, Nat.reduceAdd] at hK ⊢
        go_simp
        exact hK.out _ _ (Kp.refl _) rfl
      case se2 =>
        refine OpStepQ.off 0 0 (by kernel_rfl) (by kernel_rfl) ?_
        intro x u p hp hg hd K hK
        obtain rfl : p = 0 := by omega
        change Kp W5 u ∧ OwnL CeIns 6 64 u W5.heap.size (.slice A8 f.ins.length k8) f.ins ∧ W8.heap.size ≤ u.heap.size at hg
        have d1 : (x 1) = .agg #[.int .i64 (-4711), .int .i64 0, .int .i64 0, .int .i64 0, .int .i64 0, .int .i64 0] := And.left hd
        clear hd
        refine ⟨?_⟩
        simp only [putsFrom, Act.put, List.setIfInBounds_toArray, List.set_cons_zero, List.set_cons_succ, Nat.reduceAdd, d1] at hK ⊢
        go_simp
        exact hK.out _ _ ((Kp.refl _).alloc _) ⟨_, rfl, hg.2.2, blk_new _ _⟩
      case se3 =>
        refine OpStepQ.on 0 (by kernel_rfl) (by kernel_rfl) ?_
        intro x u hg hd K hK
        change Kp W5 u ∧ OwnL CeIns 6 64 u W5.heap.size (.slice A8 f.ins.length k8) f.ins ∧ W8.heap.size ≤ u.heap.size at hg
        have d0 : (x 0) = .slice A8 f.ins.length k8 := And.left hd
        have d2 : LitAt W8.heap.size 64 #[.int .i64 (-4711), .int .i64 0, .int .i64 0, .int .i64 0, .int .i64 0, .int .i64 0] (x 2) u := And.left (And.right hd)
        clear hd
        obtain ⟨b, e6, hb6, hlit⟩ := d2
        obtain ⟨xs, l1, l2⟩ := hg.2.1
        refine ⟨?_⟩
        simp only [putsFrom, Act.put, List.setIfInBounds_toArray, List.set_cons_zero, List.set_cons_succ, Nat.reduceAdd, d0, e6] at hK ⊢
        rw [if_pos (by simp [Region.wanted])]
        refine wp_appP elIns (.tmp 51) (.tmp 53) (by rfl) l1 (by rfl) [.int .i64 (-4711), .int .i64 0, .int .i64 0, .int .i64 0, .int .i64 0, .int .i64 0] _ 1 1 (by rfl) rfl (fun _ => ⟨_, rfl, lit_src hlit⟩) (by intro u hu; simp at hu; rcases hu with rfl | rfl <;> rfl) B1.out B2.out hg.1.le ?_
        intro v' w' G1 G2 G3 G4
        obtain ⟨g', c', rfl, hgc⟩ := rowSome G1 (Nat.succ_pos _)
        exact hK.out _ w' (KpF.of_grown G2 BF.out) ⟨Below.trans hg.1 G4, g', c', rfl, hgc, g', c', xs, rfl, hgc, G1, Chunk.mono (fun _ _ h => CeIns.any h) l2⟩ trivial
      case se4 =>
        refine OpStepQ.off 0 1 (by kernel_rfl) (by kernel_rfl) ?_
        intro x u p hp hg hd K hK
        clear hd
        refine ⟨?_⟩
        simp only [putsFrom, Act.put, List.setIfInBounds_toArray, List.set_cons_zero, List.set_cons_succ, Nat.reduceAdd] at hK ⊢
        go_simp
        exact hK.out _ _ (Kp.refl _) rfl
      case se5 =>
        refine OpStepQ.off 0 1 (by kernel_rfl) (by kernel_rfl) ?_
        intro x u p hp hg hd K hK
        have d4 : (x 4) = .pointer (some ⟨nf, 4, none⟩) := And.left hd
        clear hd
        have hgk : Kp W5 u := by
          rcases p with _ | _ | p
          · exact hg.1
          · exact hg.1
          · omega
        have q := blk_cell (o := 4) (v := Value.slice Ai f.ins.length ci) ((hgk.block _ (blk_lt HBF.out)).trans HBF.out) rfl
        clear hg hgk
        refine ⟨?_⟩
        simp only [putsFrom, Act.put, List.setIfInBounds_toArray, List.set_cons_zero, List.set_cons_succ, Nat.reduceAdd, d4] at hK ⊢
        go_simp
        exact hK.out _ _ (Kp.refl _) rfl
      case se6 =>
        refine OpStepQ.off 0 1 (by kernel_rfl) (by kernel_rfl) ?_
        intro x u p hp hg hd K hK
        have d5 : (x 5) = .slice Ai f.ins.length ci := And.left hd
        clear hd
        refine ⟨?_⟩
        simp only [putsFrom, Act.put, List.setIfInBounds_toArray, List.set_cons_zero, List.set_cons_succ, Nat.reduceAdd, d5] at hK ⊢
        go_simp
        exact hK.out _ _ (Kp.refl _) rfl
      case se7 =>
        refine OpStepQ.on 1 (by kernel_rfl) (by kernel_rfl) ?_
        intro x u hg hd K hK
        change Kp W5 u ∧ ∃ g k, x 3 = .slice (some ⟨g, 0, none⟩) (f.ins.length + 1) k ∧ f.ins.length + 1 ≤ k ∧ RmO CeIns 6 64 mkI u W5.heap.size (.slice (some ⟨g, 0, none⟩) f.ins.length k) f.ins at hg
        have d6 : (x 6) = .int .i64 (f.ins.length : Int) := And.left (And.right hd)
        clear hd
        obtain ⟨hg1, g7, k7, e7, hk7, hr7⟩ := hg
        have i1 : (f.ins.length : Int) ≤ (k7 : Int) := by omega
        have i2 : (0 : Int) ≤ (f.ins.length : Int) := by omega
        refine ⟨?_⟩
        simp only [putsFrom, Act.put, List.setIfInBounds_toArray, List.set_cons_zero, List.set_cons_succ, Nat.reduceAdd, d6, e7] at hK ⊢
        go_simp
        exact hK.out _ _ (KpF.of_kp (Kp.refl _)) ⟨hg1, g7, k7, rfl, hr7⟩ trivial
      case se8 =>
        refine OpStepQ.off 0 2 (by kernel_rfl) (by kernel_rfl) ?_
        intro x u p hp hg hd K hK
        clear hd
        refine ⟨?_⟩
        simp only [putsFrom, Act.put, List.setIfInBounds_toArray, List.set_cons_zero, List.set_cons_succ, Nat.reduceAdd] at hK ⊢
        go_simp
        exact hK.out _ _ (Kp.refl _) rfl
      case se9 =>
        refine OpStepQ.on 2 (by kernel_rfl) (by kernel_rfl) ?_
        intro x u hg hd K hK
        change Kp W5 u ∧ ∃ g k, x 7 = .slice (some ⟨g, 0, none⟩) f.ins.length k ∧ RmO CeIns 6 64 mkI u W5.heap.size (.slice (some ⟨g, 0, none⟩) f.ins.length k) f.ins at hg
        have d8 : (x 8) = .pointer (some ⟨nf, 4, none⟩) := And.left (And.right hd)
        clear hd
        obtain ⟨hg1, g7, k7, e7, hr7⟩ := hg
        have hg2 := (hg1.block _ (blk_lt HBF.out)).trans HBF.out
        have s1 := blk_cell (o := 4) (v := Value.slice Ai f.ins.length ci) hg2 rfl
        have f1 := blk_free (o := 4) hg2
        have sl := blk_lt hg2
        refine ⟨?_⟩
        simp only [putsFrom, Act.put, List.setIfInBounds_toArray, List.set_cons_zero, List.set_cons_succ, Nat.reduceAdd, d8, e7] at hK ⊢
        go_simp
        exact hK.out undef _ (KpF.setCell BN.out _) ⟨(HKF.out.trans hg1).setCell (p := ⟨nf, 4, none⟩) (by show wr.heap.size ≤ nf; exact Nat.le_of_eq HNF.out) _, g7, k7, blk_set (o := 4) hg2 _, hr7.touch (by decide) (fun _ _ h => CeIns.any h) (rowTouch (o := 4) hg2 _)⟩ trivial
      intro x u hg he
      have d0 : (x 0) = .slice A8 f.ins.length k8 := And.left he
      have d1 : (x 1) = .agg #[.int .i64 (-4711), .int .i64 0, .int .i64 0, .int .i64 0, .int .i64 0, .int .i64 0] := And.left (And.right he)
      have d2 : LitAt W8.heap.size 64 #[.int .i64 (-4711), .int .i64 0, .int .i64 0, .int .i64 0, .int .i64 0, .int .i64 0] (x 2) u := And.left (And.right (And.right he))
      have d4 : (x 4) = .pointer (some ⟨nf, 4, none⟩) := And.left (And.right (And.right (And.right (And.right he))))
      have d5 : (x 5) = .slice Ai f.ins.length ci := And.left (And.right (And.right (And.right (And.right (And.right he)))))
      have d6 : (x 6) = .int .i64 (f.ins.length : Int) := And.left (And.right (And.right (And.right (And.right (And.right (And.right he))))))
      have d8 : (x 8) = .pointer (some ⟨nf, 4, none⟩) := And.left (And.right (And.right (And.right (And.right (And.right (And.right (And.right (And.right he))))))))
      clear he
      change Kp wr u ∧ ∃ g k, u.heap[nf]? = some (.cells #[.string f.name, .int .i64 f.params, .int .i64 f.slots, .int .i64 f.caps, .slice (some ⟨g, 0, none⟩) f.ins.length k] 45 (0, 0)) ∧ RmO CeIns 6 64 mkI u W5.heap.size (.slice (some ⟨g, 0, none⟩) f.ins.length k) f.ins at hg
      refine ⟨?_⟩
      simp only [putsFrom, Act.put, List.setIfInBounds_toArray, List.set_cons_zero, List.set_cons_succ, Nat.reduceAdd, d0, d1, d4, d5, d6, d8]
      clear d0 d1 d4 d5 d6 d8
      obtain ⟨hgk, g9, k9, hx9, hr9⟩ := hg
      obtain ⟨W9, hW9⟩ : ∃ W9, W9 = u := ⟨_, rfl⟩
      rw [← hW9] at hgk hx9 hr9 ⊢
      have HS9 := hid (HR.out.keep hgk); have HX9 := hid hx9; have HR9 := hid hr9
      clear hW9 hgk hx9 hr9 BF BN B1 B2
      go_upto_region 10 with fail
      have e0 := blk_cell (o := 0) (v := Value.slice Ad k cd) HS9.out.box rfl
      have el := blk_lt HS9.out.box
      have g0 := blk_cell (o := 0) (v := Value.string f.name) HX9.out rfl
      have g1 := blk_cell (o := 1) (v := Value.int .i64 f.params) HX9.out rfl
      have g2 := blk_cell (o := 2) (v := Value.int .i64 f.slots) HX9.out rfl
      have g3 := blk_cell (o := 3) (v := Value.int .i64 f.caps) HX9.out rfl
      have g4' := blk_cell (o := 4) (v := Value.slice (some ⟨g9, 0, none⟩) f.ins.length k9) HX9.out rfl
      have gl := blk_lt HX9.out
      have hlk : (c.funcs.take k).length = k := by rw [List.length_take]; omega
      obtain ⟨xsf, l1, l2⟩ := HS9.out.fns
      rw [hlk] at l1
      have HL1 := hid l1
      have HL2 := hid l2
      have HLK := hid hlk
      have B1 := hid (show k + 1 ≤ maxLen by have := HFL.out; unfold maxLen; omega)
      have B2 := hid (show (k + 1) * 64 ≤ 140737488355328 by have := HFL.out; omega)
      clear l1 l2 hlk
      go_wp2_with (at_builtin; refine app_lit elFn ?r0 (.tmp 61) (.tmp 63) ?r1 HL1.out ?r2 #[.string f.name, .int .i64 f.params, .int .i64 f.slots, .int .i64 f.caps, .slice (some ⟨g9, 0, none⟩) f.ins.length k9] 45 1 1 ?r3 ?r4 ?r5 B1.out B2.out HS9.out.kp.le ?r9)
      case r0 => rfl
      case r1 => rfl
      case r2 => rfl
      case r3 => rfl
      case r4 => rfl
      case r5 => repeat' (first | exact rfl | refine ⟨?_, ?_⟩)
      case r9 =>
        intro v' w' G1 G2 _ _ G4
        obtain ⟨A', c', rfl⟩ := own_form G1
        have ht := Touch.of_grown HL1.out G2
        have hbx2 : w'.heap[b3]? = some (.cells #[.slice Ad k cd, .slice (some ⟨g4, 0, none⟩) c.texts.length k4] 25 (0, 0)) := ht.2 _ _ HS9.out.box (fun cs fr e => by injection e with _ e _; exact absurd e (by decide))
        have hins : RmO CeIns 6 64 mkI w' W.heap.size (.slice (some ⟨g9, 0, none⟩) f.ins.length k9) f.ins := (HR9.out.touch (by decide) (fun _ _ h => CeIns.any h) ht).base_ (by have := HLF.out; have := HNF.out; have := HR.out.kp.le; omega)
        have hrow := OwnL.snoc (a := f) (n := k + 1) (by rw [HLK.out]) HL2.out (fun cs a h => h.touch (by decide) ht) ⟨.slice (some ⟨g9, 0, none⟩) f.ins.length k9, rfl, hins, HOF.out⟩ rfl G1
        rw [take_snoc HFK.out] at hrow
        have HXE := hid (HS9.out.step ht G4 hrow)
        have s0 := blk_cell (o := 0) (v := Value.slice Ad k cd) hbx2 rfl
        have s1 := blk_free (o := 0) hbx2
        have sl := blk_lt hbx2
        clear G1 G2 G4 ht hbx2 hrow hins e0 el g0 g1 g2 g3 g4' gl
        go_wp2
        exact ⟨⟨k + 1, A', c', hlt, by congr 1, HXE.out⟩, by simp only [intOf, Int.toNat_natCast]; omega⟩
    · have i1 : ¬ (k : Int) < (c.funcs.length : Int) := by omega
      obtain rfl : k = c.funcs.length := by omega
      have hres := (HR.out.kp.block _ (blk_lt HBR.out)).trans HBR.out
      have HRES := hid hres
      have r0 := blk_cell (o := 0) (v := Value.slice none 0 0) hres rfl
      have r1 := blk_cell (o := 1) (v := Value.slice none 0 0) hres rfl
      have rf0 := blk_free (o := 0) hres
      have rf1 := blk_free (o := 1) hres
      have rl := blk_lt hres
      have d0 := blk_cell (o := 0) (v := Value.slice Ad c.funcs.length cd) HR.out.box rfl
      have d1 := blk_cell (o := 1) (v := Value.slice (some ⟨g4, 0, none⟩) c.texts.length k4) HR.out.box rfl
      have dl := blk_lt HR.out.box
      clear hlt hk hres
      go_wp2
      obtain ⟨z0, z1⟩ := set2_cells (BoxAt.mk_ r0 rf0) (BoxAt.mk_ r1 rf1) (.slice Ad c.funcs.length cd) (.slice (some ⟨g4, 0, none⟩) c.texts.length k4)
      refine bodyPost_ret (v := .agg #[.slice Ad c.funcs.length cd, .slice (some ⟨g4, 0, none⟩) c.texts.length k4]) (by simp [results, Try.results9, go_sem, z0, z1]) rfl ?_
      have t1 := rowTouch (o := 0) HRES.out (.slice Ad c.funcs.length cd)
      have t2 := rowTouch (o := 1) (blk_set (o := 0) HRES.out (.slice Ad c.funcs.length cd)) (.slice (some ⟨g4, 0, none⟩) c.texts.length k4)
      have t := t1.trans t2
      have hfn := HR.out.fns
      rw [List.take_length] at hfn
      have hwW : w.heap.size ≤ W.heap.size := HK0.out.le
      exact ⟨⟨_, rfl, _, _, rfl, OwnL.base_ hwW (ownL_touch (by decide) (fun _ _ x => x.touch (by decide) t) (OwnL.mono (fun _ _ x => x.base_ hwW) hfn) t), (HR.out.txs.touch (by decide) (fun _ _ h => CeStr.any h) t).base_ hwW, HFL.out, HTL.out⟩, ((HK0.out.trans HR.out.kp).setCell (p := ⟨n1, 0, none⟩) HNN.out.2 _).setCell (p := ⟨n1, 1, none⟩) HNN.out.2 _⟩
end Go.Proofs.Ytgonekmmbeedeaa
namespace Go.Proofs.Ytgonekmmbeedeaa
open Go.RowKit
set_option linter.unusedVariables false
set_option linter.unusedSimpArgs false

theorem RmCode.form {w : World} {base : Nat} {v : Value} {c : CodeM} (h : RmCode w base v c) : ∃ Df df gt kt, v = .agg #[.slice Df c.funcs.length df, .slice (some ⟨gt, 0, none⟩) c.texts.length kt] := by
  obtain ⟨vf, vt, rfl, hdf, hdt, _⟩ := h
  obtain ⟨Df, df, rfl⟩ : ∃ A k, vf = .slice A c.funcs.length k := by obtain ⟨xs, h, _⟩ := hdf; exact own_form h
  obtain ⟨gt, kt, rfl, hkt⟩ := hdt.form
  exact ⟨_, _, _, _, rfl⟩
theorem at_rm {B : Nat} {w : World} {A : Option Addr} {n cc : Nat} {l : List FnM} {i : Nat} {m : FnM} (h : RdL (CeRm B) 5 w (.slice A n cc) l) (hi : l[i]? = some m) : ∃ b off g kk, A = some ⟨b, off, none⟩ ∧ b < w.heap.size ∧ w.cell? ⟨b, off + i * 5 + 4, none⟩ = some (.slice (some ⟨g, 0, none⟩) m.ins.length kk) ∧ m.ins.length + 1 ≤ kk ∧ w.cell? ⟨g, m.ins.length * 6, none⟩ = some (.int .i64 (-4711)) := by
  obtain ⟨b, off, cs, g1, g2, g3, _, g4⟩ := h.at_ hi
  obtain ⟨lins, rfl, h0, _⟩ := g3
  obtain ⟨g, kk, rfl, hk⟩ := h0.form
  exact ⟨b, off, g, kk, g1, g2, g4 4 (by omega), hk, h0.mark 0 (by decide)⟩
set_option maxRecDepth 20000 in
set_option maxHeartbeats 8000000 in
theorem stayedCode_any (w : World) (B : Nat) (vd vc : Value) (c : CodeM) (hd_ : RmCode w B vd c) (hc_ : RdCode w vc c) : Calls Try.prog 11 #[vd, vc] w fun e w' => e = .returned (.bool true) ∧ Kp w w' := by
  have HD := hid hd_
  have HC := hid hc_
  obtain ⟨vf, vt, rfl, hdf, hdt, _⟩ := hd_
  obtain ⟨lf, lt, rfl, hf, hfl, ht, htl⟩ := hc_
  obtain ⟨Af, cf, rfl, _⟩ := hf.form
  obtain ⟨At, ct, rfl, _⟩ := ht.form
  obtain ⟨Df, df, rfl⟩ : ∃ A k, vf = .slice A c.funcs.length k := by obtain ⟨xs, h, _⟩ := hdf; exact own_form h
  obtain ⟨gt, kt, rfl, hkt⟩ := hdt.form
  have HMT := hid (show w.cell? ⟨gt, c.texts.length, none⟩ = some (.string spareB) from by
    have h := hdt.mark 0 (by decide)
    rw [Nat.mul_one, Nat.add_zero] at h
    exact h)
  have HDF := hid (OwnL.rd hdf)
  have HF := hid hf
  have HFL := hid hfl
  have HTL := hid htl
  clear hdf hdt hf ht hfl htl
  have HK0 := hid (show Kp w ((w.alloc (.cells #[.slice Df c.funcs.length df, .slice (some ⟨gt, 0, none⟩) c.texts.length kt] 25)).alloc (.cells #[.slice Af c.funcs.length cf, .slice At c.texts.length ct] 25)) from ((Kp.refl _).alloc _).alloc _)
  have HB2 := hid (blk_old (blk_new w (.cells #[.slice Df c.funcs.length df, .slice (some ⟨gt, 0, none⟩) c.texts.length kt] 25)) (.cells #[.slice Af c.funcs.length cf, .slice At c.texts.length ct] 25))
  have HB3 := hid (show ((w.alloc (.cells #[.slice Df c.funcs.length df, .slice (some ⟨gt, 0, none⟩) c.texts.length kt] 25)).alloc (.cells #[.slice Af c.funcs.length cf, .slice At c.texts.length ct] 25)).heap[w.heap.size + 1]? = some (.cells #[.slice Af c.funcs.length cf, .slice At c.texts.length ct] 25 (0, 0)) from by have h := blk_new (w.alloc (.cells #[.slice Df c.funcs.length df, .slice (some ⟨gt, 0, none⟩) c.texts.length kt] 25)) (.cells #[.slice Af c.funcs.length cf, .slice At c.texts.length ct] 25); rw [World.size_alloc] at h; exact h)
  go_enter Try.func11, Try.ntmps11
  go_upto_region 1 with fail
  generalize ((w.alloc (.cells #[.slice Df c.funcs.length df, .slice (some ⟨gt, 0, none⟩) c.texts.length kt] 25)).alloc (.cells #[.slice Af c.funcs.length cf, .slice At c.texts.length ct] 25)) = W at HK0 HB2 HB3 ⊢
  generalize w.heap.size + 1 = n3 at HB3 ⊢
  generalize w.heap.size = n2 at HB2 ⊢
  have a0 := blk_cell (o := 0) (v := Value.slice Df c.funcs.length df) HB2.out rfl
  have a1 := blk_cell (o := 1) (v := Value.slice (some ⟨gt, 0, none⟩) c.texts.length kt) HB2.out rfl
  have al := blk_lt HB2.out
  have b0 := blk_cell (o := 0) (v := Value.slice Af c.funcs.length cf) HB3.out rfl
  have b1 := blk_cell (o := 1) (v := Value.slice At c.texts.length ct) HB3.out rfl
  have bl := blk_lt HB3.out
  have hgl := block_lt_of_cell HMT.out
  have mt := cell_kp HK0.out hgl HMT.out
  have mtl := Nat.lt_of_lt_of_le hgl HK0.out.le
  have i1 : (0 : Int) ≤ (c.texts.length : Int) + 1 := by omega
  have i2 : (c.texts.length : Int) + 1 ≤ (kt : Int) := by omega
  have i3 : (0 : Int) ≤ (c.texts.length : Int) := by omega
  have i4 : (c.texts.length : Int) < (c.texts.length : Int) + 1 := by omega
  have i5 : ((c.texts.length : Int) + 1).toNat = c.texts.length + 1 := by omega
  have kw : IntKind.i64.wrap ((c.texts.length : Int) + 1) = (c.texts.length : Int) + 1 := by have := HTL.out; rw [IntKind.wrap_i64]; omega
  unfold spareB at mt
  refine wp_region_kp [[], [], [0, 1], [2], [3], [4], [4, 5], [4], [4, 7], [4, 8], [4, 9], [4, 6, 10], [4], [4, 12], [4, 13], [4, 11, 14], [4, 15], [4, 16], [4, 17]] (fun u => Kp W u)
    [fun (y : Value) (u : World) => y = (.agg #[.slice Df c.funcs.length df, .slice (some ⟨gt, 0, none⟩) c.texts.length kt] : Value),
     fun (y : Value) (u : World) => y = (.agg #[.slice Af c.funcs.length cf, .slice At c.texts.length ct] : Value),
     fun (y : Value) (u : World) => y = (.bool true : Value),
     fun (y : Value) (u : World) => y = (.bool false : Value),
     fun (y : Value) (u : World) => y = (.bool false : Value),
     fun (y : Value) (u : World) => y = (.pointer (some ⟨n2, 1, none⟩) : Value),
     fun (y : Value) (u : World) => y = (.slice (some ⟨gt, 0, none⟩) c.texts.length kt : Value),
     fun (y : Value) (u : World) => y = (.pointer (some ⟨n3, 1, none⟩) : Value),
     fun (y : Value) (u : World) => y = (.slice At c.texts.length ct : Value),
     fun (y : Value) (u : World) => y = (.int .i64 (c.texts.length : Int) : Value),
     fun (y : Value) (u : World) => y = (.int .i64 ((c.texts.length : Int) + 1) : Value),
     fun (y : Value) (u : World) => y = (.slice (some ⟨gt, 0, none⟩) (c.texts.length + 1) kt : Value),
     fun (y : Value) (u : World) => y = (.pointer (some ⟨n3, 1, none⟩) : Value),
     fun (y : Value) (u : World) => y = (.slice At c.texts.length ct : Value),
     fun (y : Value) (u : World) => y = (.int .i64 (c.texts.length : Int) : Value),
     fun (y : Value) (u : World) => y = (.pointer (some ⟨gt, c.texts.length, none⟩) : Value),
     fun (y : Value) (u : World) => y = (.string ⟨#[115, 112, 97, 114, 101]⟩ : Value),
     fun (y : Value) (u : World) => y = (.bool false : Value),
     fun (y : Value) (u : World) => y = (.bool false : Value)]
    (by kernel_rfl) (by kernel_rfl) (by kernel_rfl) (by kernel_rfl) ((Kp.refl _).drew) (fun _ _ hk h => h.trans hk) ⟨fun _ _ _ _ h => h, fun _ _ _ _ h => h, fun _ _ _ _ h => h, fun _ _ _ _ h => h, fun _ _ _ _ h => h, fun _ _ _ _ h => h, fun _ _ _ _ h => h, fun _ _ _ _ h => h, fun _ _ _ _ h => h, fun _ _ _ _ h => h, fun _ _ _ _ h => h, fun _ _ _ _ h => h, fun _ _ _ _ h => h, fun _ _ _ _ h => h, fun _ _ _ _ h => h, fun _ _ _ _ h => h, fun _ _ _ _ h => h, fun _ _ _ _ h => h, fun _ _ _ _ h => h, trivial⟩ ⟨?sf0, ?sf1, ?sf2, ?sf3, ?sf4, ?sf5, ?sf6, ?sf7, ?sf8, ?sf9, ?sf10, ?sf11, ?sf12, ?sf13, ?sf14, ?sf15, ?sf16, ?sf17, ?sf18, trivial⟩ ?hEf
  case sf0 =>
    intro x u hg hd K hK
    clear hd
    have q0 := cell_kp hg al a0
    have q1 := cell_kp hg al a1
    refine ⟨?_⟩
    simp only [putsFrom, Act.put, List.setIfInBounds_toArray, List.set_cons_zero, List.set_cons_succ, Nat.reduceAdd] at hK ⊢
    go_simp
    exact hK.out _ _ (Kp.refl _) rfl
  case sf1 =>
    intro x u hg hd K hK
    clear hd
    have q0 := cell_kp hg bl b0
    have q1 := cell_kp hg bl b1
    refine ⟨?_⟩
    simp only [putsFrom, Act.put, List.setIfInBounds_toArray, List.set_cons_zero, List.set_cons_succ, Nat.reduceAdd] at hK ⊢
    go_simp
    exact hK.out _ _ (Kp.refl _) rfl
  case sf2 =>
    intro x u hg hd K hK
    have d0 : (x 0) = .agg #[.slice Df c.funcs.length df, .slice (some ⟨gt, 0, none⟩) c.texts.length kt] := And.left hd
    have d1 : (x 1) = .agg #[.slice Af c.funcs.length cf, .slice At c.texts.length ct] := And.left (And.right hd)
    clear hd
    refine ⟨?_⟩
    simp only [putsFrom, Act.put, List.setIfInBounds_toArray, List.set_cons_zero, List.set_cons_succ, Nat.reduceAdd, d0, d1] at hK ⊢
    go_simp
    go_at_call 13
    have hc := (same_eq u _ _ c ((HD.out.rd).kp (HK0.out.trans hg)) (HC.out.kp (HK0.out.trans hg)))
    refine hc.mono ?_
    clear hc
    rintro e u' ⟨rfl, hk9⟩
    dsimp only
    exact hK.out _ _ hk9 rfl
  case sf3 =>
    intro x u hg hd K hK
    have d2 : (x 2) = .bool true := And.left hd
    clear hd
    refine ⟨?_⟩
    simp only [putsFrom, Act.put, List.setIfInBounds_toArray, List.set_cons_zero, List.set_cons_succ, Nat.reduceAdd, d2] at hK ⊢
    go_simp
    exact hK.out _ _ (Kp.refl _) rfl
  case sf4 =>
    intro x u hg hd K hK
    have d3 : (x 3) = .bool false := And.left hd
    clear hd
    refine ⟨?_⟩
    simp only [putsFrom, Act.put, List.setIfInBounds_toArray, List.set_cons_zero, List.set_cons_succ, Nat.reduceAdd, d3] at hK ⊢
    go_simp
    exact hK.out _ _ (Kp.refl _) rfl
  case sf5 =>
    intro x u hg hd K hK
    have d4 : (x 4) = .bool false := And.left hd
    clear hd
    refine ⟨?_⟩
    simp only [putsFrom, Act.put, List.setIfInBounds_toArray, List.set_cons_zero, List.set_cons_succ, Nat.reduceAdd, d4] at hK ⊢
    go_simp
    exact hK.out _ _ (Kp.refl _) rfl
  case sf6 =>
    intro x u hg hd K hK
    have d4 : (x 4) = .bool false := And.left hd
    have d5 : (x 5) = .pointer (some ⟨n2, 1, none⟩) := And.left (And.right hd)
    clear hd
    have q0 := cell_kp hg al a1
    refine ⟨?_⟩
    simp only [putsFrom, Act.put, List.setIfInBounds_toArray, List.set_cons_zero, List.set_cons_succ, Nat.reduceAdd, d4, d5] at hK ⊢
    go_simp
    exact hK.out _ _ (Kp.refl _) rfl
  case sf7 =>
    intro x u hg hd K hK
    have d4 : (x 4) = .bool false := And.left hd
    clear hd
    refine ⟨?_⟩
    simp only [putsFrom, Act.put, List.setIfInBounds_toArray, List.set_cons_zero, List.set_cons_succ, Nat.reduceAdd, d4] at hK ⊢
    go_simp
    exact hK.out _ _ (Kp.refl _) rfl
  case sf8 =>
    intro x u hg hd K hK
    have d4 : (x 4) = .bool false := And.left hd
    have d7 : (x 7) = .pointer (some ⟨n3, 1, none⟩) := And.left (And.right hd)
    clear hd
    have q0 := cell_kp hg bl b1
    refine ⟨?_⟩
    simp only [putsFrom, Act.put, List.setIfInBounds_toArray, List.set_cons_zero, List.set_cons_succ, Nat.reduceAdd, d4, d7] at hK ⊢
    go_simp
    exact hK.out _ _ (Kp.refl _) rfl
  case sf9 =>
    intro x u hg hd K hK
    have d4 : (x 4) = .bool false := And.left hd
    have d8 : (x 8) = .slice At c.texts.length ct := And.left (And.right hd)
    clear hd
    refine ⟨?_⟩
    simp only [putsFrom, Act.put, List.setIfInBounds_toArray, List.set_cons_zero, List.set_cons_succ, Nat.reduceAdd, d4, d8] at hK ⊢
    go_simp
    exact hK.out _ _ (Kp.refl _) rfl
  case sf10 =>
    intro x u hg hd K hK
    have d4 : (x 4) = .bool false := And.left hd
    have d9 : (x 9) = .int .i64 (c.texts.length : Int) := And.left (And.right hd)
    clear hd
    refine ⟨?_⟩
    simp only [putsFrom, Act.put, List.setIfInBounds_toArray, List.set_cons_zero, List.set_cons_succ, Nat.reduceAdd, d4, d9] at hK ⊢
    go_simp
    exact hK.out _ _ (Kp.refl _) rfl
  case sf11 =>
    intro x u hg hd K hK
    have d4 : (x 4) = .bool false := And.left hd
    have d6 : (x 6) = .slice (some ⟨gt, 0, none⟩) c.texts.length kt := And.left (And.right hd)
    have d10 : (x 10) = .int .i64 ((c.texts.length : Int) + 1) := And.left (And.right (And.right hd))
    clear hd
    refine ⟨?_⟩
    simp only [putsFrom, Act.put, List.setIfInBounds_toArray, List.set_cons_zero, List.set_cons_succ, Nat.reduceAdd, d4, d6, d10] at hK ⊢
    go_simp
    exact hK.out _ _ (Kp.refl _) rfl
  case sf12 =>
    intro x u hg hd K hK
    have d4 : (x 4) = .bool false := And.left hd
    clear hd
    refine ⟨?_⟩
    simp only [putsFrom, Act.put, List.setIfInBounds_toArray, List.set_cons_zero, List.set_cons_succ, Nat.reduceAdd, d4] at hK ⊢
    go_simp
    exact hK.out _ _ (Kp.refl _) rfl
  case sf13 =>
    intro x u hg hd K hK
    have d4 : (x 4) = .bool false := And.left hd
    have d12 : (x 12) = .pointer (some ⟨n3, 1, none⟩) := And.left (And.right hd)
    clear hd
    have q0 := cell_kp hg bl b1
    refine ⟨?_⟩
    simp only [putsFrom, Act.put, List.setIfInBounds_toArray, List.set_cons_zero, List.set_cons_succ, Nat.reduceAdd, d4, d12] at hK ⊢
    go_simp
    exact hK.out _ _ (Kp.refl _) rfl
  case sf14 =>
    intro x u hg hd K hK
    have d4 : (x 4) = .bool false := And.left hd
    have d13 : (x 13) = .slice At c.texts.length ct := And.left (And.right hd)
    clear hd
    refine ⟨?_⟩
    simp only [putsFrom, Act.put, List.setIfInBounds_toArray, List.set_cons_zero, List.set_cons_succ, Nat.reduceAdd, d4, d13] at hK ⊢
    go_simp
    exact hK.out _ _ (Kp.refl _) rfl
  case sf15 =>
    intro x u hg hd K hK
    have d4 : (x 4) = .bool false := And.left hd
    have d11 : (x 11) = .slice (some ⟨gt, 0, none⟩) (c.texts.length + 1) kt := And.left (And.right hd)
    have d14 : (x 14) = .int .i64 (c.texts.length : Int) := And.left (And.right (And.right hd))
    clear hd
    refine ⟨?_⟩
    simp only [putsFrom, Act.put, List.setIfInBounds_toArray, List.set_cons_zero, List.set_cons_succ, Nat.reduceAdd, d4, d11, d14] at hK ⊢
    go_simp
    exact hK.out _ _ (Kp.refl _) rfl
  case sf16 =>
    intro x u hg hd K hK
    have d4 : (x 4) = .bool false := And.left hd
    have d15 : (x 15) = .pointer (some ⟨gt, c.texts.length, none⟩) := And.left (And.right hd)
    clear hd
    have q0 := cell_kp hg mtl mt
    refine ⟨?_⟩
    simp only [putsFrom, Act.put, List.setIfInBounds_toArray, List.set_cons_zero, List.set_cons_succ, Nat.reduceAdd, d4, d15] at hK ⊢
    go_simp
    exact hK.out _ _ (Kp.refl _) rfl
  case sf17 =>
    intro x u hg hd K hK
    have d4 : (x 4) = .bool false := And.left hd
    have d16 : (x 16) = .string ⟨#[115, 112, 97, 114, 101]⟩ := And.left (And.right hd)
    clear hd
    refine ⟨?_⟩
    simp only [putsFrom, Act.put, List.setIfInBounds_toArray, List.set_cons_zero, List.set_cons_succ, Nat.reduceAdd, d4, d16] at hK ⊢
    go_simp
    exact hK.out _ _ (Kp.refl _) rfl
  case sf18 =>
    intro x u hg hd K hK
    have d4 : (x 4) = .bool false := And.left hd
    have d17 : (x 17) = .bool false := And.left (And.right hd)
    clear hd
    refine ⟨?_⟩
    simp only [putsFrom, Act.put, List.setIfInBounds_toArray, List.set_cons_zero, List.set_cons_succ, Nat.reduceAdd, d4, d17] at hK ⊢
    go_simp
    exact hK.out _ _ (Kp.refl _) rfl
  intro x u hg he
  have d0 : (x 0) = .agg #[.slice Df c.funcs.length df, .slice (some ⟨gt, 0, none⟩) c.texts.length kt] := And.left he
  have d1 : (x 1) = .agg #[.slice Af c.funcs.length cf, .slice At c.texts.length ct] := And.left (And.right he)
  have d2 : (x 2) = .bool true := And.left (And.right (And.right he))
  have d3 : (x 3) = .bool false := And.left (And.right (And.right (And.right he)))
  have d4 : (x 4) = .bool false := And.left (And.right (And.right (And.right (And.right he))))
  have d5 : (x 5) = .pointer (some ⟨n2, 1, none⟩) := And.left (And.right (And.right (And.right (And.right (And.right he)))))
  have d6 : (x 6) = .slice (some ⟨gt, 0, none⟩) c.texts.length kt := And.left (And.right (And.right (And.right (And.right (And.right (And.right he))))))
  have d7 : (x 7) = .pointer (some ⟨n3, 1, none⟩) := And.left (And.right (And.right (And.right (And.right (And.right (And.right (And.right he)))))))
  have d8 : (x 8) = .slice At c.texts.length ct := And.left (And.right (And.right (And.right (And.right (And.right (And.right (And.right (And.right he))))))))
  have d9 : (x 9) = .int .i64 (c.texts.length : Int) := And.left (And.right (And.right (And.right (And.right (And.right (And.right (And.right (And.right (And.right he)))))))))
  have d10 : (x 10) = .int .i64 ((c.texts.length : Int) + 1) := And.left (And.right (And.right (And.right (And.right (And.right (And.right (And.right (And.right (And.right (And.right he))))))))))
  have d11 : (x 11) = .slice (some ⟨gt, 0, none⟩) (c.texts.length + 1) kt := And.left (And.right (And.right (And.right (And.right (And.right (And.right (And.right (And.right (And.right (And.right (And.right he)))))))))))
  have d12 : (x 12) = .pointer (some ⟨n3, 1, none⟩) := And.left (And.right (And.right (And.right (And.right (And.right (And.right (And.right (And.right (And.right (And.right (And.right (And.right he))))))))))))
  have d13 : (x 13) = .slice At c.texts.length ct := And.left (And.right (And.right (And.right (And.right (And.right (And.right (And.right (And.right (And.right (And.right (And.right (And.right (And.right he)))))))))))))
  have d14 : (x 14) = .int .i64 (c.texts.length : Int) := And.left (And.right (And.right (And.right (And.right (And.right (And.right (And.right (And.right (And.right (And.right (And.right (And.right (And.right (And.right he))))))))))))))
  have d15 : (x 15) = .pointer (some ⟨gt, c.texts.length, none⟩) := And.left (And.right (And.right (And.right (And.right (And.right (And.right (And.right (And.right (And.right (And.right (And.right (And.right (And.right (And.right (And.right he)))))))))))))))
  have d16 : (x 16) = .string ⟨#[115, 112, 97, 114, 101]⟩ := And.left (And.right (And.right (And.right (And.right (And.right (And.right (And.right (And.right (And.right (And.right (And.right (And.right (And.right (And.right (And.right (And.right he))))))))))))))))
  have d17 : (x 17) = .bool false := And.left (And.right (And.right (And.right (And.right (And.right (And.right (And.right (And.right (And.right (And.right (And.right (And.right (And.right (And.right (And.right (And.right (And.right he)))))))))))))))))
  have d18 : (x 18) = .bool false := And.left (And.right (And.right (And.right (And.right (And.right (And.right (And.right (And.right (And.right (And.right (And.right (And.right (And.right (And.right (And.right (And.right (And.right (And.right he))))))))))))))))))
  clear he
  refine ⟨?_⟩
  simp only [putsFrom, Act.put, List.setIfInBounds_toArray, List.set_cons_zero, List.set_cons_succ, Nat.reduceAdd, d0, d1, d2, d3, d4, d5, d6, d7, d8, d9, d10, d11, d12, d13, d14, d15, d16, d17, d18]
  clear d0 d1 d2 d3 d4 d5 d6 d7 d8 d9 d10 d11 d12 d13 d14 d15 d16 d17 d18
  have HKU := hid hg
  clear hg
  obtain ⟨W2, hW2⟩ : ∃ x, x = u := ⟨_, rfl⟩
  subst hW2
  go_wp2_with fail
  go_loopw [5, 6] (fun i _ wr => ∃ k : Nat, k ≤ c.funcs.length ∧ i = .int .i64 (k : Int) ∧ Kp W wr) (fun i _ _ => c.funcs.length - (intOf i).toNat)
  case atStart => exact ⟨0, Nat.zero_le _, rfl, HKU.out⟩
  case round =>
    obtain ⟨k, hk, rfl, hkr⟩ := hrel
    have HKR := hid hkr
    have a0 := cell_kp hkr al a0
    have b0 := cell_kp hkr bl b0
    clear hkr
    by_cases hlt : k < c.funcs.length
    · have i1 : (k : Int) < (c.funcs.length : Int) := by omega
      have k1 : IntKind.i64.wrap ((k : Int) + 1) = (k : Int) + 1 := by have := HFL.out; rw [IntKind.wrap_i64]; omega
      obtain ⟨m, hm⟩ : ∃ m, c.funcs[k]? = some m := ⟨_, List.getElem?_eq_getElem hlt⟩
      obtain ⟨b, off, g, kk, rfl, hbl, e4, hkk, eg⟩ := at_rm ((HDF.out.kp CeRm.kp HK0.out).kp CeRm.kp HKR.out) hm
      obtain ⟨b', off', rfl, hbl', lins, f0, f1, f2, f3, f4, h0, h1, h2, h3, h4, h5⟩ := at_fn ((HF.out.kp CeFn.kp HK0.out).kp CeFn.kp HKR.out) hm
      obtain ⟨A5, c5, rfl, _⟩ := h4.form
      have j1 : (0 : Int) ≤ (m.ins.length : Int) + 1 := by omega
      have j2 : (m.ins.length : Int) + 1 ≤ (kk : Int) := by omega
      have j4 : (m.ins.length : Int) < (m.ins.length : Int) + 1 := by omega
      have j5 : ((m.ins.length : Int) + 1).toNat = m.ins.length + 1 := by omega
      have j6 : IntKind.i64.wrap ((m.ins.length : Int) + 1) = (m.ins.length : Int) + 1 := by rw [IntKind.wrap_i64]; omega
      clear hm hlt h0 h1 h2 h3 h4 h5 f0 f1 f2 f3
      go_wp2
      exact ⟨⟨k + 1, Nat.succ_le_of_lt (by omega), by congr 1, HKR.out⟩, by simp only [intOf, Int.toNat_natCast]; omega⟩
    · have i1 : ¬ (k : Int) < (c.funcs.length : Int) := by omega
      go_wp2
      go_ret
      exact ⟨rfl, HK0.out.trans HKR.out⟩
end Go.Proofs.Ytgonekmmbeedeaa
