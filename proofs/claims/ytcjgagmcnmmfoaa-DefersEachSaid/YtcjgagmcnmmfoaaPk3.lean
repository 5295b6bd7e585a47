/-
  Parts of the proof of a law: ScanC, ScanD, ScanE, ScanF, ScanQ. No condition.
-/
import Derived.Deep.QuietTactic
import Derived.BigQuiet
import Derived.Deep.DeepCutAuto
import Derived.Test.YtcjgagmcnmmfoaaPk1
import Derived.Test.YtcjgagmcnmmfoaaPk2
set_option maxRecDepth 20000
set_option maxHeartbeats 16000000
set_option linter.unusedVariables false
set_option linter.unusedSimpArgs false
namespace Go.Proofs.Ytcjgagmcnmmfoaa
open Go.RowKit

def CuCells (S : ByteArray) (c : CutM) (ov : Value) : Array Value := #[.string S, .int .i64 (c.pos : Int), .int .i64 c.line, .int .i64 c.col, ov]
structure Cut (w : World) (cb : Nat) (S : ByteArray) (c : CutM) (ov : Value) : Prop where
 blk : w.heap[cb]? = some (.cells (CuCells S c ov) 55 (0, 0))
 out : OwnL CeToken 4 57 w cb ov c.out
section
variable {w w' : World} {cb : Nat} {S : ByteArray} {c : CutM} {ov : Value}
theorem Cut.kp (h : Cut w cb S c ov) (hk : Kp w w') : Cut w' cb S c ov := ⟨(hk.block cb (blk_lt h.blk)).trans h.blk, h.out.kp CeToken.kp hk⟩
theorem Cut.lt (h : Cut w cb S c ov) : cb < w.heap.size := blk_lt h.blk
theorem Cut.fz (h : Cut w cb S c ov) (o : Nat) : w.frozen? ⟨cb, o, none⟩ = false := blk_free h.blk
theorem Cut.c0 (h : Cut w cb S c ov) : w.cell? ⟨cb, 0, none⟩ = some (.string S) := blk_cell h.blk rfl
theorem Cut.c1 (h : Cut w cb S c ov) : w.cell? ⟨cb, 1, none⟩ = some (.int .i64 (c.pos : Int)) := blk_cell h.blk rfl
theorem Cut.c2 (h : Cut w cb S c ov) : w.cell? ⟨cb, 2, none⟩ = some (.int .i64 c.line) := blk_cell h.blk rfl
theorem Cut.c3 (h : Cut w cb S c ov) : w.cell? ⟨cb, 3, none⟩ = some (.int .i64 c.col) := blk_cell h.blk rfl
theorem Cut.c4 (h : Cut w cb S c ov) : w.cell? ⟨cb, 4, none⟩ = some ov := blk_cell h.blk rfl
theorem Cut.len (h : Cut w cb S c ov) : ∃ A cap, ov = .slice A c.out.length cap := by
 obtain ⟨A, cap, e, _⟩ := (OwnL.rd h.out).form
 exact ⟨A, cap, e⟩
theorem tok_touch {base : Nat} {T : TypeId} {v : Value} {l : List TokenM} (h : OwnL CeToken 4 57 w base v l) (ht : Touch T w w') (hn : 57 ≠ T) : OwnL CeToken 4 57 w' base v l := by
 obtain ⟨xs, h1, h2⟩ := h
 exact ⟨xs, ownsRow_touch hn h1 ht, Chunk.mono (w := w) (w' := w') (fun _ _ h => h) h2⟩
theorem Cut.at_pos (h : Cut w cb S c ov) (p : Nat) : Cut (w.setCell ⟨cb, 1, none⟩ (.int .i64 (p : Int))) cb S { c with pos := p } ov := ⟨blk_set h.blk _, tok_touch h.out (rowTouch h.blk _) (by decide)⟩
theorem Cut.at_line (h : Cut w cb S c ov) (p : Int) : Cut (w.setCell ⟨cb, 2, none⟩ (.int .i64 p)) cb S { c with line := p } ov := ⟨blk_set h.blk _, tok_touch h.out (rowTouch h.blk _) (by decide)⟩
theorem Cut.at_col (h : Cut w cb S c ov) (p : Int) : Cut (w.setCell ⟨cb, 3, none⟩ (.int .i64 p)) cb S { c with col := p } ov := ⟨blk_set h.blk _, tok_touch h.out (rowTouch h.blk _) (by decide)⟩
theorem Cut.at_out (h : Cut w cb S c ov) (ht : Touch 57 w w') {ov2 : Value} {l : List TokenM} (ho : OwnL CeToken 4 57 w' cb ov2 l) : Cut (w'.setCell ⟨cb, 4, none⟩ ov2) cb S { c with out := l } ov2 := by
 have hb := ht.2 cb _ h.blk (fun cs fr e => by injection e with _ e _; exact absurd e (by decide))
 exact ⟨blk_set hb _, tok_touch ho (rowTouch hb _) (by decide)⟩
end
def CutS (w : World) (cb : Nat) (S : ByteArray) (c : CutM) : Prop := (∃ ov, Cut w cb S c ov) ∧ CBd S c
def stopE (e : Err) : Ending := .panicked [{ v := .iface 52 (.agg #[.int .i64 e.1, .int .i64 e.2.1, .int .i64 e.2.2]), recovered := false }]
def CutP (w : World) (cb : Nat) (S : ByteArray) (r : Except Err CutM) (e : Ending) (w' : World) : Prop :=
 ((∃ c, r = .ok c ∧ e = .returned (.tuple #[]) ∧ CutS w' cb S c) ∨ (∃ er, r = .error er ∧ e = stopE er)) ∧ Below cb w w'
theorem fail_any (w : World) (cb : Nat) (S : ByteArray) (c : CutM) (h : CutS w cb S c) (k : Int) : Calls Try.prog 33 #[.pointer (some ⟨cb, 0, none⟩), .int .i64 k] w fun e w' => e = stopE (k, c.line, c.col) ∧ Kp w w' := by
 obtain ⟨⟨ov, h⟩, _⟩ := h
 have H := hid h
 go_enter Try.func33, Try.ntmps33
 refine wp_region_last 12 [[], [], [1], [2], [3], [], [5], [6], [7], [0, 4, 8], [9], [10], [11]] (fun u => Kp w u)
  [eqV (.int .i64 k), eqV (.pointer (some ⟨cb, 0, none⟩)), eqV (.pointer (some ⟨cb, 0, none⟩)), eqV (.pointer (some ⟨cb, 2, none⟩)), eqV (.int .i64 c.line), eqV (.pointer (some ⟨cb, 0, none⟩)), eqV (.pointer (some ⟨cb, 0, none⟩)), eqV (.pointer (some ⟨cb, 3, none⟩)), eqV (.int .i64 c.col), eqV (.agg #[.int .i64 k, .int .i64 c.line, .int .i64 c.col]), eqV (.agg #[.int .i64 k, .int .i64 c.line, .int .i64 c.col]), eqV (.iface 52 (.agg #[.int .i64 k, .int .i64 c.line, .int .i64 c.col]))]
  (by kernel_rfl) (by kernel_rfl) (by kernel_rfl) (by kernel_rfl) (by kernel_rfl) (by kernel_rfl) ((Kp.refl _).drew) (fun _ _ hk h => h.trans hk) (by repeat' first | exact trivial | refine ⟨fun _ _ _ _ h => h, ?_⟩) ⟨?sb0, ?sb1, ?sb2, ?sb3, ?sb4, ?sb5, ?sb6, ?sb7, ?sb8, ?sb9, ?sb10, ?sb11, trivial⟩ ⟨?hEb, trivial⟩
 case sb0 => exact OpStepK.mv 1 (.int .i64 k) (by kernel_rfl) (free_ (by kernel_rfl)) (fun _ _ _ => by kernel_rfl) (fun _ => rfl)
 case sb1 | sb5 => exact OpStepK.mv 0 (.pointer (some ⟨cb, 0, none⟩)) (by kernel_rfl) (free_ (by kernel_rfl)) (fun _ _ _ => by kernel_rfl) (fun _ => rfl)
 case sb2 => exact OpStepK.op1 5 (.pointer (some ⟨cb, 0, none⟩)) (free_ (by kernel_rfl)) (fun x _ h => Eq.trans (b := some (x 1)) (by kernel_rfl) (congrArg some h.1)) fun a u e5 hg K hK => (by go_simp; exact hK.out _ _ (Kp.refl _) rfl)
 case sb3 => exact OpStepK.op1 6 (.pointer (some ⟨cb, 0, none⟩)) (free_ (by kernel_rfl)) (fun x _ h => Eq.trans (b := some (x 2)) (by kernel_rfl) (congrArg some h.1)) fun a u e6 hg K hK => (by go_simp; exact hK.out _ _ (Kp.refl _) rfl)
 case sb4 => exact OpStepK.op1 7 (.pointer (some ⟨cb, 2, none⟩)) (free_ (by kernel_rfl)) (fun x _ h => Eq.trans (b := some (x 3)) (by kernel_rfl) (congrArg some h.1)) fun a u e7 hg K hK => (by have q0 := cell_kp hg H.out.lt H.out.c2; go_simp; exact hK.out _ _ (Kp.refl _) rfl)
 case sb6 => exact OpStepK.op1 9 (.pointer (some ⟨cb, 0, none⟩)) (free_ (by kernel_rfl)) (fun x _ h => Eq.trans (b := some (x 5)) (by kernel_rfl) (congrArg some h.1)) fun a u e9 hg K hK => (by go_simp; exact hK.out _ _ (Kp.refl _) rfl)
 case sb7 => exact OpStepK.op1 10 (.pointer (some ⟨cb, 0, none⟩)) (free_ (by kernel_rfl)) (fun x _ h => Eq.trans (b := some (x 6)) (by kernel_rfl) (congrArg some h.1)) fun a u e10 hg K hK => (by go_simp; exact hK.out _ _ (Kp.refl _) rfl)
 case sb8 => exact OpStepK.op1 11 (.pointer (some ⟨cb, 3, none⟩)) (free_ (by kernel_rfl)) (fun x _ h => Eq.trans (b := some (x 7)) (by kernel_rfl) (congrArg some h.1)) fun a u e11 hg K hK => (by have q0 := cell_kp hg H.out.lt H.out.c3; go_simp; exact hK.out _ _ (Kp.refl _) rfl)
 case sb10 => exact OpStepK.op1 13 (.agg #[.int .i64 k, .int .i64 c.line, .int .i64 c.col]) (free_ (by kernel_rfl)) (fun x _ h => Eq.trans (b := some (x 9)) (by kernel_rfl) (congrArg some h.1)) fun a u e13 hg K hK => (by go_simp; exact hK.out _ _ (Kp.refl _) rfl)
 case sb11 => exact OpStepK.op1 14 (.agg #[.int .i64 k, .int .i64 c.line, .int .i64 c.col]) (free_ (by kernel_rfl)) (fun x _ h => Eq.trans (b := some (x 10)) (by kernel_rfl) (congrArg some h.1)) fun a u e14 hg K hK => (by go_simp; exact hK.out _ _ (Kp.refl _) rfl)
 case sb9 =>
  intro x u hg hd K hK
  have d0 : (x 0) = .int .i64 k := hd.1
  have d4 : (x 4) = .int .i64 c.line := hd.2.1
  have d8 : (x 8) = .int .i64 c.col := hd.2.2.1
  clear hd
  refine ⟨?_⟩
  simp only [putsFrom, Act.put, List.setIfInBounds_toArray, List.set_cons_zero, List.set_cons_succ, Nat.reduceAdd, d0, d4, d8] at hK ⊢
  go_simp
  exact hK.out _ _ (Kp.refl _) rfl
 intro x u hg he K hK
 obtain ⟨d0, d1, d2, d3, d4, d5, d6, d7, d8, d9, d10, d11, -⟩ := he
 refine ⟨?_⟩
 simp only [putsFrom, Act.put, List.setIfInBounds_toArray, List.set_cons_zero, List.set_cons_succ, Nat.reduceAdd, d0, d1, d2, d3, d4, d5, d6, d7, d8, d9, d10, d11] at hK ⊢
 go_simp
 refine ⟨rfl, ?_⟩
 clear hK
 clear d0 d1 d2 d3 d4 d5 d6 d7 d8 d9 d10 d11
 exact ⟨rfl, hg⟩
theorem putM_bd {S : ByteArray} {c c' : CutM} {k : Int} {t : ByteArray} {n : Nat} (h : CBd S c) (hn : c.pos + n ≤ S.size) (hf : c.out.length ≠ 2000) : putM c k t n = .ok { c with pos := c.pos + n, col := c.col + n, out := c.out ++ [⟨k, t, c.line, c.col⟩] } ∧ CBd S { c with pos := c.pos + n, col := c.col + n, out := c.out ++ [⟨k, t, c.line, c.col⟩] } := by
 have e : putM c k t n = .ok { c with pos := c.pos + n, col := c.col + n, out := c.out ++ [⟨k, t, c.line, c.col⟩] } := by unfold putM; rw [if_neg hf]
 exact ⟨e, h.put hn e⟩
theorem put_any (w : World) (cb : Nat) (S : ByteArray) (c : CutM) (h : CutS w cb S c) (k : Int) (hk : okI k) (t : ByteArray) (ht : t.size ≤ 140737488351232) (n : Nat) (hn : c.pos + n ≤ S.size) :
  Calls Try.prog 31 #[.pointer (some ⟨cb, 0, none⟩), .int .i64 k, .string t, .int .i64 (n : Int)] w (CutP w cb S (putM c k t n)) := by
 have HC := hid h
 obtain ⟨⟨ov, h⟩, bd⟩ := h
 have H := hid h; have BD := hid bd
 obtain ⟨A, cap, rfl⟩ := h.len
 have c4 := h.c4
 have hlt := h.lt
 by_cases hf : c.out.length = 2000
 ·have t1 : ((c.out.length : Int) == 2000) = true := by rw [beq_iff_eq]; omega
  have HF := hid (show putM c k t n = .error (15, c.line, c.col) by unfold putM; rw [if_pos hf])
  clear h bd hf hn
  go_enter Try.func31, Try.ntmps31
  go_wp2_with (go_at_call 33; go_must (refine (fail_any _ cb S c HC.out 15).mono ?_); rintro e w1 ⟨he, hk1⟩; unfold stopE at he; subst he)
  exact ⟨rfl, .inr ⟨_, HF.out, rfl⟩, Below.mono hk1 (Nat.le_of_lt H.out.lt)⟩
 ·have t1 : ((c.out.length : Int) == 2000) = false := by rw [beq_eq_false_iff_ne]; omega
  obtain ⟨hp, hb2⟩ := putM_bd (c' := c) (k := k) (t := t) bd hn hf
  have HP := hid hp; have HB2 := hid hb2
  have hge : cb ≤ w.heap.size := Nat.le_of_lt hlt
  have HGE := hid hge
  obtain ⟨xs, hxs, hch⟩ := h.out
  have HXS := hid hxs; have HCH := hid hch
  have BDR := hid (show ∀ g, (Value.slice A c.out.length cap).ownBlock = some g → g < w.heap.size from fun g hg => (World.ownsRow.lt hxs g hg).2)
  have hol := bd.out
  have B1 := hid (show c.out.length + 1 ≤ maxLen by unfold maxLen; omega)
  have B2 := hid (show (c.out.length + 1) * 40 ≤ 140737488355328 by omega)
  have OKT := hid (show okI k ∧ t.size ≤ 140737488351232 ∧ okI c.line ∧ okI c.col from ⟨hk, ht, by have := bd.l1; have := bd.l2; have := bd.pos; have := bd.size; unfold okI; omega, by have := bd.c1; have := bd.c2; have := bd.pos; have := bd.size; unfold okI; omega⟩)
  obtain ⟨p2, hp2⟩ : ∃ p2, c.pos + n = p2 := ⟨_, rfl⟩
  obtain ⟨q2, hq2⟩ : ∃ q2, c.col + (n : Int) = q2 := ⟨_, rfl⟩
  have j1 : IntKind.i64.wrap ((c.pos : Int) + (n : Int)) = (p2 : Int) := by rw [IntKind.wrap_i64]; have := bd.size; omega
  have j2 : IntKind.i64.wrap (c.col + (n : Int)) = q2 := by rw [IntKind.wrap_i64]; have := bd.size; have := bd.c1; have := bd.c2; omega
  rw [hp2, hq2] at HP HB2
  clear h bd hxs hch hol hf hn hp hb2 hp2 hq2 hk ht
  go_enter Try.func31, Try.ntmps31
  go_upto_region 2 with fail
  clear c4
  refine wp_region_phase [17, 20] [(0, 1), (0, 0), (0, 0), (0, 0), (0, 0), (0, 0), (0, 0), (0, 0), (0, 0), (0, 0), (0, 0), (0, 0), (0, 0), (0, 0), (0, 0), (0, 0), (0, 0), (0, 0), (0, 1), (0, 1), (0, 0)] (KpF w.heap.size) [[], [], [1], [2], [3], [], [], [], [7], [8], [9], [], [11], [12], [13], [5, 6, 10, 14], [15], [4, 16], [0], [18], [17, 19]]
   (fun (p : Nat) (x : Nat → Value) (u : World) => match p with | 0 => Kp w u | 1 => Touch 57 w u ∧ OwnL CeToken 4 57 u cb (x 17) (c.out ++ [⟨k, t, c.line, c.col⟩]) ∧ Below cb w u | _ => (∃ ov2, Cut u cb S { c with out := c.out ++ [⟨k, t, c.line, c.col⟩] } ov2) ∧ Below cb w u)
   [fun (y : Value) (u : World) => y = (.pointer (some ⟨cb, 0, none⟩) : Value),
   fun (y : Value) (u : World) => y = (.pointer (some ⟨cb, 0, none⟩) : Value),
   fun (y : Value) (u : World) => y = (.pointer (some ⟨cb, 0, none⟩) : Value),
   fun (y : Value) (u : World) => y = (.pointer (some ⟨cb, 4, none⟩) : Value),
   fun (y : Value) (u : World) => y = (.slice A c.out.length cap : Value),
   fun (y : Value) (u : World) => y = (.int .i64 k : Value),
   fun (y : Value) (u : World) => y = (.string t : Value),
   fun (y : Value) (u : World) => y = (.pointer (some ⟨cb, 0, none⟩) : Value),
   fun (y : Value) (u : World) => y = (.pointer (some ⟨cb, 0, none⟩) : Value),
   fun (y : Value) (u : World) => y = (.pointer (some ⟨cb, 2, none⟩) : Value),
   fun (y : Value) (u : World) => y = (.int .i64 c.line : Value),
   fun (y : Value) (u : World) => y = (.pointer (some ⟨cb, 0, none⟩) : Value),
   fun (y : Value) (u : World) => y = (.pointer (some ⟨cb, 0, none⟩) : Value),
   fun (y : Value) (u : World) => y = (.pointer (some ⟨cb, 3, none⟩) : Value),
   fun (y : Value) (u : World) => y = (.int .i64 c.col : Value),
   fun (y : Value) (u : World) => y = (.agg #[.int .i64 k, .string t, .int .i64 c.line, .int .i64 c.col] : Value),
   fun (y : Value) (u : World) => LitAt w.heap.size 57 #[.int .i64 k, .string t, .int .i64 c.line, .int .i64 c.col] y u,
   fun (y : Value) (u : World) => True,
   fun (y : Value) (u : World) => y = (.pointer (some ⟨cb, 0, none⟩) : Value),
   fun (y : Value) (u : World) => y = (.pointer (some ⟨cb, 4, none⟩) : Value),
   fun (y : Value) (u : World) => True]
   (by kernel_rfl) (by kernel_rfl) (by kernel_rfl) (by kernel_rfl) (by kernel_rfl) (by kernel_rfl) (fun _ _ hk => KpF.of_kp hk) ((Kp.refl w).drew) ?hKc ?hXc ⟨fun _ _ _ _ h => h, fun _ _ _ _ h => h, fun _ _ _ _ h => h, fun _ _ _ _ h => h, fun _ _ _ _ h => h, fun _ _ _ _ h => h, fun _ _ _ _ h => h, fun _ _ _ _ h => h, fun _ _ _ _ h => h, fun _ _ _ _ h => h, fun _ _ _ _ h => h, fun _ _ _ _ h => h, fun _ _ _ _ h => h, fun _ _ _ _ h => h, fun _ _ _ _ h => h, fun _ _ _ _ h => h, fun _ _ _ hk h => h.keep hk, fun _ _ _ _ _ => trivial, fun _ _ _ _ h => h, fun _ _ _ _ h => h, fun _ _ _ _ _ => trivial, trivial⟩ ⟨?sc0, ?sc1, ?sc2, ?sc3, ?sc4, ?sc5, ?sc6, ?sc7, ?sc8, ?sc9, ?sc10, ?sc11, ?sc12, ?sc13, ?sc14, ?sc15, ?sc16, ?sc17, ?sc18, ?sc19, ?sc20, trivial⟩ ?hEc
  case hKc =>
   intro p x w w' hk h
   rcases p with _ | _ | p
   ·exact h.trans hk
   ·exact ⟨h.1.trans (Touch.of_kp hk), h.2.1.kp CeToken.kp hk, Below.trans h.2.2 (Below.mono hk (Nat.le_trans HGE.out h.2.2.size))⟩
   ·exact ⟨by obtain ⟨o2, h1⟩ := h.1; exact ⟨o2, h1.kp hk⟩, Below.trans h.2 (Below.mono hk (Nat.le_trans HGE.out h.2.size))⟩
  case hXc =>
   intro p x i v w hi h
   have e0 : upd x i v 17 = x 17 := if_neg (fun hh => hi (by rw [← hh]; decide))
   have e1 : upd x i v 20 = x 20 := if_neg (fun hh => hi (by rw [← hh]; decide))
   rcases p with _ | _ | p
   ·first | exact h | (simp only [e0, e1]; exact h)
   ·first | exact h | (simp only [e0, e1]; exact h)
   ·first | exact h | (simp only [e0, e1]; exact h)
  case sc0 =>
   refine OpStepQ.off 0 1 (by kernel_rfl) (by kernel_rfl) ?_
   intro x u p hp hg hd K hK
   clear hd
   refine ⟨?_⟩
   simp only [putsFrom, Act.put, List.setIfInBounds_toArray, List.set_cons_zero, List.set_cons_succ, Nat.reduceAdd] at hK ⊢
   go_simp
   exact hK.out _ _ (Kp.refl _) rfl
  case sc1 =>
   refine OpStepQ.off 0 0 (by kernel_rfl) (by kernel_rfl) ?_
   intro x u p hp hg hd K hK
   obtain rfl : p = 0 := by omega
   change Kp w u at hg
   clear hd
   refine ⟨?_⟩
   simp only [putsFrom, Act.put, List.setIfInBounds_toArray, List.set_cons_zero, List.set_cons_succ, Nat.reduceAdd] at hK ⊢
   go_simp
   exact hK.out _ _ (Kp.refl _) rfl
  case sc2 =>
   refine OpStepQ.off 0 0 (by kernel_rfl) (by kernel_rfl) ?_
   intro x u p hp hg hd K hK
   obtain rfl : p = 0 := by omega
   change Kp w u at hg
   have d1 : (x 1) = .pointer (some ⟨cb, 0, none⟩) := hd.1
   clear hd
   refine ⟨?_⟩
   simp only [putsFrom, Act.put, List.setIfInBounds_toArray, List.set_cons_zero, List.set_cons_succ, Nat.reduceAdd, d1] at hK ⊢
   go_simp
   exact hK.out _ _ (Kp.refl _) rfl
  case sc3 =>
   refine OpStepQ.off 0 0 (by kernel_rfl) (by kernel_rfl) ?_
   intro x u p hp hg hd K hK
   obtain rfl : p = 0 := by omega
   change Kp w u at hg
   have d2 : (x 2) = .pointer (some ⟨cb, 0, none⟩) := hd.1
   clear hd
   refine ⟨?_⟩
   simp only [putsFrom, Act.put, List.setIfInBounds_toArray, List.set_cons_zero, List.set_cons_succ, Nat.reduceAdd, d2] at hK ⊢
   go_simp
   exact hK.out _ _ (Kp.refl _) rfl
  case sc4 =>
   refine OpStepQ.off 0 0 (by kernel_rfl) (by kernel_rfl) ?_
   intro x u p hp hg hd K hK
   obtain rfl : p = 0 := by omega
   change Kp w u at hg
   have d3 : (x 3) = .pointer (some ⟨cb, 4, none⟩) := hd.1
   clear hd
   have q9 := cell_kp hg H.out.lt H.out.c4
   refine ⟨?_⟩
   simp only [putsFrom, Act.put, List.setIfInBounds_toArray, List.set_cons_zero, List.set_cons_succ, Nat.reduceAdd, d3] at hK ⊢
   go_simp
   exact hK.out _ _ (Kp.refl _) rfl
  case sc5 =>
   refine OpStepQ.off 0 0 (by kernel_rfl) (by kernel_rfl) ?_
   intro x u p hp hg hd K hK
   obtain rfl : p = 0 := by omega
   change Kp w u at hg
   clear hd
   refine ⟨?_⟩
   simp only [putsFrom, Act.put, List.setIfInBounds_toArray, List.set_cons_zero, List.set_cons_succ, Nat.reduceAdd] at hK ⊢
   go_simp
   exact hK.out _ _ (Kp.refl _) rfl
  case sc6 =>
   refine OpStepQ.off 0 0 (by kernel_rfl) (by kernel_rfl) ?_
   intro x u p hp hg hd K hK
   obtain rfl : p = 0 := by omega
   change Kp w u at hg
   clear hd
   refine ⟨?_⟩
   simp only [putsFrom, Act.put, List.setIfInBounds_toArray, List.set_cons_zero, List.set_cons_succ, Nat.reduceAdd] at hK ⊢
   go_simp
   exact hK.out _ _ (Kp.refl _) rfl
  case sc7 =>
   refine OpStepQ.off 0 0 (by kernel_rfl) (by kernel_rfl) ?_
   intro x u p hp hg hd K hK
   obtain rfl : p = 0 := by omega
   change Kp w u at hg
   clear hd
   refine ⟨?_⟩
   simp only [putsFrom, Act.put, List.setIfInBounds_toArray, List.set_cons_zero, List.set_cons_succ, Nat.reduceAdd] at hK ⊢
   go_simp
   exact hK.out _ _ (Kp.refl _) rfl
  case sc8 =>
   refine OpStepQ.off 0 0 (by kernel_rfl) (by kernel_rfl) ?_
   intro x u p hp hg hd K hK
   obtain rfl : p = 0 := by omega
   change Kp w u at hg
   have d7 : (x 7) = .pointer (some ⟨cb, 0, none⟩) := hd.1
   clear hd
   refine ⟨?_⟩
   simp only [putsFrom, Act.put, List.setIfInBounds_toArray, List.set_cons_zero, List.set_cons_succ, Nat.reduceAdd, d7] at hK ⊢
   go_simp
   exact hK.out _ _ (Kp.refl _) rfl
  case sc9 =>
   refine OpStepQ.off 0 0 (by kernel_rfl) (by kernel_rfl) ?_
   intro x u p hp hg hd K hK
   obtain rfl : p = 0 := by omega
   change Kp w u at hg
   have d8 : (x 8) = .pointer (some ⟨cb, 0, none⟩) := hd.1
   clear hd
   refine ⟨?_⟩
   simp only [putsFrom, Act.put, List.setIfInBounds_toArray, List.set_cons_zero, List.set_cons_succ, Nat.reduceAdd, d8] at hK ⊢
   go_simp
   exact hK.out _ _ (Kp.refl _) rfl
  case sc10 =>
   refine OpStepQ.off 0 0 (by kernel_rfl) (by kernel_rfl) ?_
   intro x u p hp hg hd K hK
   obtain rfl : p = 0 := by omega
   change Kp w u at hg
   have d9 : (x 9) = .pointer (some ⟨cb, 2, none⟩) := hd.1
   clear hd
   have q9 := cell_kp hg H.out.lt H.out.c2
   refine ⟨?_⟩
   simp only [putsFrom, Act.put, List.setIfInBounds_toArray, List.set_cons_zero, List.set_cons_succ, Nat.reduceAdd, d9] at hK ⊢
   go_simp
   exact hK.out _ _ (Kp.refl _) rfl
  case sc11 =>
   refine OpStepQ.off 0 0 (by kernel_rfl) (by kernel_rfl) ?_
   intro x u p hp hg hd K hK
   obtain rfl : p = 0 := by omega
   change Kp w u at hg
   clear hd
   refine ⟨?_⟩
   simp only [putsFrom, Act.put, List.setIfInBounds_toArray, List.set_cons_zero, List.set_cons_succ, Nat.reduceAdd] at hK ⊢
   go_simp
   exact hK.out _ _ (Kp.refl _) rfl
  case sc12 =>
   refine OpStepQ.off 0 0 (by kernel_rfl) (by kernel_rfl) ?_
   intro x u p hp hg hd K hK
   obtain rfl : p = 0 := by omega
   change Kp w u at hg
   have d11 : (x 11) = .pointer (some ⟨cb, 0, none⟩) := hd.1
   clear hd
   refine ⟨?_⟩
   simp only [putsFrom, Act.put, List.setIfInBounds_toArray, List.set_cons_zero, List.set_cons_succ, Nat.reduceAdd, d11] at hK ⊢
   go_simp
   exact hK.out _ _ (Kp.refl _) rfl
  case sc13 =>
   refine OpStepQ.off 0 0 (by kernel_rfl) (by kernel_rfl) ?_
   intro x u p hp hg hd K hK
   obtain rfl : p = 0 := by omega
   change Kp w u at hg
   have d12 : (x 12) = .pointer (some ⟨cb, 0, none⟩) := hd.1
   clear hd
   refine ⟨?_⟩
   simp only [putsFrom, Act.put, List.setIfInBounds_toArray, List.set_cons_zero, List.set_cons_succ, Nat.reduceAdd, d12] at hK ⊢
   go_simp
   exact hK.out _ _ (Kp.refl _) rfl
  case sc14 =>
   refine OpStepQ.off 0 0 (by kernel_rfl) (by kernel_rfl) ?_
   intro x u p hp hg hd K hK
   obtain rfl : p = 0 := by omega
   change Kp w u at hg
   have d13 : (x 13) = .pointer (some ⟨cb, 3, none⟩) := hd.1
   clear hd
   have q9 := cell_kp hg H.out.lt H.out.c3
   refine ⟨?_⟩
   simp only [putsFrom, Act.put, List.setIfInBounds_toArray, List.set_cons_zero, List.set_cons_succ, Nat.reduceAdd, d13] at hK ⊢
   go_simp
   exact hK.out _ _ (Kp.refl _) rfl
  case sc15 =>
   refine OpStepQ.off 0 0 (by kernel_rfl) (by kernel_rfl) ?_
   intro x u p hp hg hd K hK
   obtain rfl : p = 0 := by omega
   change Kp w u at hg
   have d5 : (x 5) = .int .i64 k := hd.1
   have d6 : (x 6) = .string t := hd.2.1
   have d10 : (x 10) = .int .i64 c.line := hd.2.2.1
   have d14 : (x 14) = .int .i64 c.col := hd.2.2.2.1
   clear hd
   refine ⟨?_⟩
   simp only [putsFrom, Act.put, List.setIfInBounds_toArray, List.set_cons_zero, List.set_cons_succ, Nat.reduceAdd, d5, d6, d10, d14] at hK ⊢
   go_simp
   exact hK.out _ _ (Kp.refl _) rfl
  case sc16 =>
   refine OpStepQ.off 0 0 (by kernel_rfl) (by kernel_rfl) ?_
   intro x u p hp hg hd K hK
   obtain rfl : p = 0 := by omega
   change Kp w u at hg
   have d15 : (x 15) = .agg #[.int .i64 k, .string t, .int .i64 c.line, .int .i64 c.col] := hd.1
   clear hd
   refine ⟨?_⟩
   simp only [putsFrom, Act.put, List.setIfInBounds_toArray, List.set_cons_zero, List.set_cons_succ, Nat.reduceAdd, d15] at hK ⊢
   go_simp
   exact hK.out _ _ ((Kp.refl _).alloc _) ⟨_, rfl, hg.le, blk_new _ _⟩
  case sc17 =>
   refine OpStepQ.on 0 (by kernel_rfl) (by kernel_rfl) ?_
   intro x u hg hd K hK
   change Kp w u at hg
   have d4 : (x 4) = .slice A c.out.length cap := hd.1
   have d16 : LitAt w.heap.size 57 #[.int .i64 k, .string t, .int .i64 c.line, .int .i64 c.col] (x 16) u := hd.2.1
   clear hd
   obtain ⟨b, e6, hb6, hlit⟩ := d16
   have hown : u.ownsRow cb 57 4 (.slice A c.out.length cap) c.out.length xs := ownsRow_keep HXS.out hg
   refine ⟨?_⟩
   simp only [putsFrom, Act.put, List.setIfInBounds_toArray, List.set_cons_zero, List.set_cons_succ, Nat.reduceAdd, d4, e6] at hK ⊢
   rw [if_pos (by simp [Region.wanted])]
   refine wp_appP elToken (.tmp 20) (.tmp 32) (by rfl) hown (by rfl) [.int .i64 k, .string t, .int .i64 c.line, .int .i64 c.col] _ 1 1 (by rfl) rfl (fun _ => ⟨_, rfl, lit_src hlit⟩) (by intro z hz; simp at hz; rcases hz with rfl | rfl | rfl | rfl <;> rfl) B1.out B2.out (Nat.le_trans HGE.out hg.le) ?_
   intro v' w' G1 G2 G3 G4
   have hT := Touch.of_grown hown G2
   refine hK.out v' w' (KpF.of_grown G2 BDR.out) ⟨(Touch.of_kp hg).trans hT, ?_, Below.trans (Below.mono hg HGE.out) G4⟩ trivial
   exact OwnL.snoc (by rfl) HCH.out (fun _ _ h => h) ⟨rfl, OKT.out⟩ rfl G1
  case sc18 =>
   refine OpStepQ.off 0 1 (by kernel_rfl) (by kernel_rfl) ?_
   intro x u p hp hg hd K hK
   have d0 : (x 0) = .pointer (some ⟨cb, 0, none⟩) := hd.1
   clear hd
   refine ⟨?_⟩
   simp only [putsFrom, Act.put, List.setIfInBounds_toArray, List.set_cons_zero, List.set_cons_succ, Nat.reduceAdd, d0] at hK ⊢
   go_simp
   exact hK.out _ _ (Kp.refl _) rfl
  case sc19 =>
   refine OpStepQ.off 0 1 (by kernel_rfl) (by kernel_rfl) ?_
   intro x u p hp hg hd K hK
   have d18 : (x 18) = .pointer (some ⟨cb, 0, none⟩) := hd.1
   clear hd
   refine ⟨?_⟩
   simp only [putsFrom, Act.put, List.setIfInBounds_toArray, List.set_cons_zero, List.set_cons_succ, Nat.reduceAdd, d18] at hK ⊢
   go_simp
   exact hK.out _ _ (Kp.refl _) rfl
  case sc20 =>
   refine OpStepQ.on 1 (by kernel_rfl) (by kernel_rfl) ?_
   intro x u hg hd K hK
   change Touch 57 w u ∧ OwnL CeToken 4 57 u cb (x 17) (c.out ++ [⟨k, t, c.line, c.col⟩]) ∧ Below cb w u at hg
   have d19 : (x 19) = .pointer (some ⟨cb, 4, none⟩) := hd.2.1
   clear hd
   obtain ⟨hg1', hg2', hg3'⟩ := hg
   obtain ⟨A7, c7, e7⟩ := own_form hg2'.choose_spec.1
   rw [show (c.out ++ [(⟨k, t, c.line, c.col⟩ : TokenM)]).length = c.out.length + 1 by simp] at e7
   have hbu := hg1'.2 cb _ H.out.blk (fun cs fr e => by injection e with _ e _; exact absurd e (by decide))
   have q9 : u.cell? ⟨cb, 4, none⟩ = some (.slice A c.out.length cap) := blk_cell hbu rfl
   have qf : u.frozen? ⟨cb, 4, none⟩ = false := blk_free hbu
   have HO2 := hid (H.out.at_out hg1' hg2')
   have HG4 := hid hg3'
   have e7' := hid e7
   clear hg1' hg2' hg3' hbu
   refine ⟨?_⟩
   simp only [putsFrom, Act.put, List.setIfInBounds_toArray, List.set_cons_zero, List.set_cons_succ, Nat.reduceAdd, d19, e7] at hK ⊢
   go_simp
   rw [e7'.out] at HO2
   exact hK.out undef _ (KpF.setCell hlt _) ⟨⟨_, HO2.out⟩, HG4.out.setCell (Nat.le_refl _) _⟩ trivial
  intro x u hg he
  have d0 : (x 0) = .pointer (some ⟨cb, 0, none⟩) := he.1
  have d1 : (x 1) = .pointer (some ⟨cb, 0, none⟩) := he.2.1
  have d2 : (x 2) = .pointer (some ⟨cb, 0, none⟩) := he.2.2.1
  have d3 : (x 3) = .pointer (some ⟨cb, 4, none⟩) := he.2.2.2.1
  have d4 : (x 4) = .slice A c.out.length cap := he.2.2.2.2.1
  have d5 : (x 5) = .int .i64 k := he.2.2.2.2.2.1
  have d6 : (x 6) = .string t := he.2.2.2.2.2.2.1
  have d7 : (x 7) = .pointer (some ⟨cb, 0, none⟩) := he.2.2.2.2.2.2.2.1
  have d8 : (x 8) = .pointer (some ⟨cb, 0, none⟩) := he.2.2.2.2.2.2.2.2.1
  have d9 : (x 9) = .pointer (some ⟨cb, 2, none⟩) := he.2.2.2.2.2.2.2.2.2.1
  have d10 : (x 10) = .int .i64 c.line := he.2.2.2.2.2.2.2.2.2.2.1
  have d11 : (x 11) = .pointer (some ⟨cb, 0, none⟩) := he.2.2.2.2.2.2.2.2.2.2.2.1
  have d12 : (x 12) = .pointer (some ⟨cb, 0, none⟩) := he.2.2.2.2.2.2.2.2.2.2.2.2.1
  have d13 : (x 13) = .pointer (some ⟨cb, 3, none⟩) := he.2.2.2.2.2.2.2.2.2.2.2.2.2.1
  have d14 : (x 14) = .int .i64 c.col := he.2.2.2.2.2.2.2.2.2.2.2.2.2.2.1
  have d15 : (x 15) = .agg #[.int .i64 k, .string t, .int .i64 c.line, .int .i64 c.col] := he.2.2.2.2.2.2.2.2.2.2.2.2.2.2.2.1
  have d16 : LitAt w.heap.size 57 #[.int .i64 k, .string t, .int .i64 c.line, .int .i64 c.col] (x 16) u := he.2.2.2.2.2.2.2.2.2.2.2.2.2.2.2.2.1
  have d18 : (x 18) = .pointer (some ⟨cb, 0, none⟩) := he.2.2.2.2.2.2.2.2.2.2.2.2.2.2.2.2.2.2.1
  have d19 : (x 19) = .pointer (some ⟨cb, 4, none⟩) := he.2.2.2.2.2.2.2.2.2.2.2.2.2.2.2.2.2.2.2.1
  clear he
  change (∃ ov2, Cut u cb S { c with out := c.out ++ [⟨k, t, c.line, c.col⟩] } ov2) ∧ Below cb w u at hg
  refine ⟨?_⟩
  simp only [putsFrom, Act.put, List.setIfInBounds_toArray, List.set_cons_zero, List.set_cons_succ, Nat.reduceAdd, d0, d1, d2, d3, d4, d5, d6, d7, d8, d9, d10, d11, d12, d13, d14, d15, d18, d19]
  clear d0 d1 d2 d3 d4 d5 d6 d7 d8 d9 d10 d11 d12 d13 d14 d15 d18 d19
  obtain ⟨⟨o2, hcu⟩, hbw⟩ := hg
  have HCU := hid hcu; have HBW := hid hbw
  have c1 := hcu.c1; have f1 := hcu.fz 1; have c3 := hcu.c3; have f3 := hcu.fz 3
  clear hcu hbw
  go_wp2
  first | go_end0 | refine bodyPost_ret (results_none rfl _ _ _) rfl ?_
  rw [HP.out]
  exact ⟨.inl ⟨_, rfl, rfl, ⟨_, (HCU.out.at_pos p2).at_col q2⟩, HB2.out⟩, (HBW.out.setCell (Nat.le_refl _) _).setCell (Nat.le_refl _) _⟩
end Go.Proofs.Ytcjgagmcnmmfoaa

namespace Go.Proofs.Ytcjgagmcnmmfoaa
open Go.RowKit

theorem CutP.of_ok {w w' : World} {cb : Nat} {S : ByteArray} {r : Except Err CutM} {c : CutM} {e : Ending} (h : CutP w cb S r e w') (hr : r = .ok c) : e = .returned (.tuple #[]) ∧ CutS w' cb S c ∧ Below cb w w' := by
 obtain ⟨h1 | h1, h2⟩ := h
 ·obtain ⟨c', h3, h4, h5⟩ := h1
  rw [hr] at h3; injection h3 with h3; subst h3
  exact ⟨h4, h5, h2⟩
 ·obtain ⟨er, h3, _⟩ := h1
  rw [hr] at h3; cases h3
theorem CutP.of_err {w w' : World} {cb : Nat} {S : ByteArray} {r : Except Err CutM} {er : Err} {e : Ending} (h : CutP w cb S r e w') (hr : r = .error er) : e = stopE er ∧ Below cb w w' := by
 obtain ⟨h1 | h1, h2⟩ := h
 ·obtain ⟨c', h3, _⟩ := h1
  rw [hr] at h3; cases h3
 ·obtain ⟨er', h3, h4⟩ := h1
  rw [hr] at h3; injection h3 with h3; subst h3
  exact ⟨h4, h2⟩
theorem CutP.later {w w1 w' : World} {cb : Nat} {S : ByteArray} {r : Except Err CutM} {e : Ending} (h : CutP w1 cb S r e w') (hb : Below cb w w1) : CutP w cb S r e w' := ⟨h.1, Below.trans hb h.2⟩
theorem CutS.kp {w w' : World} {cb : Nat} {S : ByteArray} {c : CutM} (h : CutS w cb S c) (hk : Kp w w') : CutS w' cb S c := by
 obtain ⟨⟨ov, h1⟩, h2⟩ := h
 exact ⟨⟨ov, h1.kp hk⟩, h2⟩
theorem CutS.lt {w : World} {cb : Nat} {S : ByteArray} {c : CutM} (h : CutS w cb S c) : cb < w.heap.size := by
 obtain ⟨⟨ov, h1⟩, h2⟩ := h
 exact h1.lt
theorem lineEnd_any (w : World) (cb : Nat) (S : ByteArray) (c : CutM) (h : CutS w cb S c) : Calls Try.prog 15 #[.pointer (some ⟨cb, 0, none⟩)] w (CutP w cb S (lineEndM c)) := by
 have HC := hid h
 obtain ⟨⟨ov, h⟩, bd⟩ := h
 have H := hid h
 obtain ⟨A, cap, rfl⟩ := h.len
 have c4 := h.c4
 have hlt := h.lt
 have HR := hid (OwnL.rd h.out)
 rcases List.eq_nil_or_concat c.out with ho | ⟨l, t, ho⟩
 ·have HE := hid (show lineEndM c = .ok c by unfold lineEndM; rw [ho]; rfl)
  rw [ho] at c4
  clear h bd
  go_enter Try.func15, Try.ntmps15
  go_wp2
  first | go_end0 | refine bodyPost_ret (results_none rfl _ _ _) rfl ?_
  exact ⟨.inl ⟨_, HE.out, rfl, HC.out⟩, Below.refl _ _⟩
 ·rw [List.concat_eq_append] at ho
  have hlen : c.out.length = l.length + 1 := by rw [ho]; simp
  have hlast : c.out.getLast? = some t := by rw [ho]; simp
  have hi : c.out[l.length]? = some t := by rw [ho]; simp
  obtain ⟨b, off, rfl, hb, g0, g1, g2, g3, ok0, ok1, ok2, ok3⟩ := at_token HR.out hi
  obtain ⟨n, hn⟩ : ∃ n, c.out.length = n := ⟨_, rfl⟩
  obtain ⟨m, hm⟩ : ∃ m, l.length = m := ⟨_, rfl⟩
  have hbn := bd.out
  rw [hn] at hlen c4 hbn
  rw [hm] at hlen g0 g1 g2 g3
  have i1 : (0 : Int) < (n : Int) := by omega
  have i2 : IntKind.i64.wrap ((n : Int) - 1) = (m : Int) := by rw [IntKind.wrap_i64]; omega
  have i3 : (m : Int) < (n : Int) := by omega
  have HP := hid bd.pos
  obtain ⟨x, hx⟩ : ∃ x, endsT t.kind t.text = x := ⟨_, rfl⟩
  have HX := hid hx
  have HLE := hid (show lineEndM c = if x then putM c 6 semiB 0 else .ok c by unfold lineEndM; rw [hlast, ← hx])
  clear h bd ho hlen hlast hi hn hm hbn ok0 ok1 ok2 ok3 hx
  cases x
  ·go_enter Try.func15, Try.ntmps15
   go_wp2_with (go_at_call 34; go_must (refine (ends_any t _).mono ?_); rintro e w1 ⟨rfl, hk1⟩; rw [HX.out])
   first | go_end0 | refine bodyPost_ret (results_none rfl _ _ _) rfl ?_
   exact ⟨.inl ⟨_, HLE.out, rfl, HC.out.kp hk1⟩, Below.mono hk1 (Nat.le_of_lt HC.out.lt)⟩
  ·cases hq : putM c 6 semiB 0 with
   | ok c2 =>
    have HQ := hid hq
    clear hq
    go_enter Try.func15, Try.ntmps15
    go_wp2_with first | (go_at_call 34; go_must (refine (ends_any t _).mono ?_); rintro e w1 ⟨rfl, hk1⟩; rw [HX.out]; have HK1 := hid hk1; clear hk1) | (go_at_call 31; go_must (refine (put_any _ cb S c (HC.out.kp HK1.out) 6 (by unfold okI; omega) ⟨#[59]⟩ (by decide) 0 (by have := HP.out; omega)).mono ?_); intro e w2 hp; obtain ⟨he, hc2, hb2⟩ := CutP.of_ok hp HQ.out; subst he; clear hp)
    first | go_end0 | refine bodyPost_ret (results_none rfl _ _ _) rfl ?_
    exact ⟨.inl ⟨_, HLE.out.trans HQ.out, rfl, hc2⟩, Below.trans (Below.mono HK1.out (Nat.le_of_lt HC.out.lt)) hb2⟩
   | error er =>
    have HQ := hid hq
    clear hq
    go_enter Try.func15, Try.ntmps15
    go_wp2_with first | (go_at_call 34; go_must (refine (ends_any t _).mono ?_); rintro e w1 ⟨rfl, hk1⟩; rw [HX.out]; have HK1 := hid hk1; clear hk1) | (go_at_call 31; go_must (refine (put_any _ cb S c (HC.out.kp HK1.out) 6 (by unfold okI; omega) ⟨#[59]⟩ (by decide) 0 (by have := HP.out; omega)).mono ?_); intro e w2 hp; obtain ⟨he, hb2⟩ := CutP.of_err hp HQ.out; unfold stopE at he; subst he; clear hp)
    exact ⟨rfl, .inr ⟨_, HLE.out.trans HQ.out, rfl⟩, Below.trans (Below.mono HK1.out (Nat.le_of_lt HC.out.lt)) hb2⟩
theorem span_cons {p : UInt8 → Bool} {b : UInt8} {r : Bs} (h : p b = true) : span_ p (b :: r) = span_ p r + 1 := by rw [span_, if_pos h]
theorem span_stop {p : UInt8 → Bool} {b : UInt8} {r : Bs} (h : p b = false) : span_ p (b :: r) = 0 := by rw [span_, if_neg (by rw [h]; decide)]
def SpanI (p : UInt8 → Bool) (S : ByteArray) (a k : Nat) : Prop := a ≤ k ∧ k ≤ S.size ∧ span_ p (restOf S a) = (k - a) + span_ p (restOf S k)
theorem SpanI.up {p : UInt8 → Bool} {S : ByteArray} {a k : Nat} {b : UInt8} (h : SpanI p S a k) (hk : k < S.size) (hb : S[k] = b) (hp : p b = true) : SpanI p S a (k + 1) := by
 obtain ⟨h1, h2, h3⟩ := h
 refine ⟨by omega, by omega, ?_⟩
 rw [rest_cons hk, hb, span_cons hp] at h3
 omega
theorem SpanI.fin {p : UInt8 → Bool} {S : ByteArray} {a k : Nat} (h : SpanI p S a k) (hs : S.size ≤ k ∨ ∃ hk : k < S.size, p S[k] = false) : a + span_ p (restOf S a) = k := by
 obtain ⟨h1, h2, h3⟩ := h
 have : span_ p (restOf S k) = 0 := by
  rcases hs with hs | ⟨hk, hs⟩
  ·rw [rest_nil hs]; rfl
  ·rw [rest_cons hk, span_stop hs]
 omega
theorem ext_rest (S : ByteArray) (a n : Nat) : (S.extract a (a + n)).data.toList = (restOf S a).take n := by
 unfold restOf
 rw [ByteArray.data_extract, Array.toList_extract, List.extract_eq_take_drop, Nat.add_sub_cancel_left]
theorem ext_size {S : ByteArray} {a k : Nat} (h1 : a ≤ k) (h2 : k ≤ S.size) : (S.extract a k).size = k - a := by rw [ByteArray.size_extract]; omega
def nameM (S : ByteArray) (c : CutM) : Except Err CutM :=
 if 16 < span_ wordB (restOf S c.pos) then .error (7, c.line, c.col) else putM c (if isWord ((restOf S c.pos).take (span_ wordB (restOf S c.pos))) then 5 else 1) (S.extract c.pos (c.pos + span_ wordB (restOf S c.pos))) (span_ wordB (restOf S c.pos))
theorem word_yes1 {b : UInt8} (h : letterB b = true) : wordB b = true := by unfold wordB; rw [h]; rfl
theorem word_yes2 {b : UInt8} (h : digitB b = true) : wordB b = true := by unfold wordB; rw [h, Bool.or_true]
theorem word_no {b : UInt8} (h : letterB b = false) (h2 : digitB b = false) : wordB b = false := by unfold wordB; rw [h, h2]; rfl
theorem span_up {p : UInt8 → Bool} {S : ByteArray} {a k : Nat} (h : SpanI p S a (k + 1)) (hw : wrap64 ((k : Int) + 1) = ((k + 1 : Nat) : Int)) (hk : k < S.size) : (∃ k' : Nat, Value.int .i64 (wrap64 ((k : Int) + 1)) = .int .i64 (k' : Int) ∧ SpanI p S a k') ∧ S.size - (intOf (.int .i64 (wrap64 ((k : Int) + 1)))).toNat < S.size - (intOf (.int .i64 (k : Int))).toNat := by
 rw [hw]
 exact ⟨⟨k + 1, rfl, h⟩, by simp only [intOf, Int.toNat_natCast]; omega⟩
theorem wrap_up {n : Nat} (h : n < 9000000000000000000) : wrap64 ((n : Int) + 1) = ((n + 1 : Nat) : Int) := by unfold wrap64; omega
theorem name_at {S : ByteArray} {c : CutM} {k : Nat} {s : ByteArray} (h : SpanI wordB S c.pos k) (hf : S.size ≤ k ∨ ∃ hk : k < S.size, wordB S[k] = false) (hs : S.extract c.pos k = s) : nameM S c = (if 16 < s.size then .error (7, c.line, c.col) else putM c (if isWord s.data.toList then 5 else 1) s s.size) ∧ s.size = k - c.pos := by
 have hfin := h.fin hf
 obtain ⟨h1, h2, _⟩ := h
 have hz := ext_size h1 h2
 rw [hs] at hz
 refine ⟨?_, hz⟩
 unfold nameM
 rw [← ext_rest, hfin, hs, show span_ wordB (restOf S c.pos) = s.size by omega]
theorem name_any (w : World) (cb : Nat) (S : ByteArray) (c : CutM) (h : CutS w cb S c) : Calls Try.prog 27 #[.pointer (some ⟨cb, 0, none⟩)] w (CutP w cb S (nameM S c)) := by
 have HC := hid h
 obtain ⟨⟨ov, h⟩, bd⟩ := h
 have H := hid h; have BD := hid bd
 have c0 := h.c0; have c1 := h.c1
 have hlt := h.lt
 have HS0 := hid (show SpanI wordB S c.pos c.pos from ⟨Nat.le_refl _, bd.pos, by omega⟩)
 clear h bd
 go_enter Try.func27, Try.ntmps27
 go_wp2_with fail
 go_loop [2] (fun n => ∃ k : Nat, n = .int .i64 (k : Int) ∧ SpanI wordB S c.pos k) (fun n => S.size - (intOf n).toNat)
 case atStart => exact ⟨_, rfl, HS0.out⟩
 case round =>
  obtain ⟨k, rfl, hsp⟩ := hrel
  have HSP := hid hsp
  by_cases hk : k < S.size
  ·obtain ⟨b, hb⟩ : ∃ b, S[k] = b := ⟨_, rfl⟩
   have HB := hid hb
   have i1 : (k : Int) < (S.size : Int) := by omega
   have HW := hid (wrap_up (n := k) (by have := BD.out.size; omega))
   clear hsp
   cases hl : letterB b with
   | true =>
    have HL := hid hl
    clear hl
    go_wp2_with (go_at_call 26; go_must (refine (letter_any b _).mono ?_); rintro e w1 ⟨rfl, rfl⟩; rw [HL.out])
    exact span_up (HSP.out.up hk HB.out (word_yes1 HL.out)) HW.out hk
   | false =>
    have HL := hid hl
    clear hl
    cases hd : digitB b with
    | true =>
     have HD := hid hd
     clear hd
     go_wp2_with first | (go_at_call 26; go_must (refine (letter_any b _).mono ?_); rintro e w1 ⟨rfl, rfl⟩; rw [HL.out]) | (go_at_call 28; go_must (refine (digit_any b _).mono ?_); rintro e w1 ⟨rfl, rfl⟩; rw [HD.out])
     exact span_up (HSP.out.up hk HB.out (word_yes2 HD.out)) HW.out hk
    | false =>
     have HD := hid hd
     clear hd
     have hsp := HSP.out
     obtain ⟨s, hs⟩ : ∃ s, S.extract c.pos k = s := ⟨_, rfl⟩
     obtain ⟨hnm, hsz⟩ := name_at hsp (.inr ⟨hk, by rw [HB.out]; exact word_no HL.out HD.out⟩) hs
     obtain ⟨hsp1, hsp2, _⟩ := hsp
     have HNM := hid hnm
     have HSS := hid (show s.size ≤ 140737488351232 ∧ c.pos + s.size ≤ S.size by have := BD.out.size; omega)
     have j1 : (0 : Int) ≤ (c.pos : Int) := by omega
     have j2 : (c.pos : Int) ≤ (k : Int) := by omega
     have j3 : (k : Int) ≤ (S.size : Int) := by omega
     clear hnm hsz hsp1 hsp2
     by_cases h16 : 16 < s.size
     ·have j4 : (16 : Int) < (s.size : Int) := by omega
      have HN2 := hid (HNM.out.trans (if_pos h16))
      clear h16
      go_wp2_with first | (go_at_call 26; go_must (refine (letter_any b _).mono ?_); rintro e w1 ⟨rfl, rfl⟩; rw [HL.out]) | (go_at_call 28; go_must (refine (digit_any b _).mono ?_); rintro e w1 ⟨rfl, rfl⟩; rw [HD.out])
      go_quiet (fail)
      go_wp2_with (go_at_call 33; go_must (refine (fail_any _ cb S c (HC.out.kp ((Kp.refl w).drewN _)) 7).mono ?_); rintro e w1 ⟨he, hk1⟩; unfold stopE at he; subst he)
      exact ⟨rfl, .inr ⟨_, HN2.out, rfl⟩, Below.mono (((Kp.refl w).drewN _).trans hk1) (Nat.le_of_lt HC.out.lt)⟩
     ·have j4 : ¬ (16 : Int) < (s.size : Int) := by omega
      have HN2 := hid (HNM.out.trans (if_neg h16))
      clear h16
      obtain ⟨x, hx⟩ : ∃ x, isWord s.data.toList = x := ⟨_, rfl⟩
      rw [hx] at HN2
      have HX := hid hx
      clear hx
      cases x
      ·cases hq : putM c 1 s s.size with
       | ok c2 =>
        have HQ := hid hq
        clear hq
        go_wp2_with first | (go_at_call 26; go_must (refine (letter_any b _).mono ?_); rintro e w1 ⟨rfl, rfl⟩; rw [HL.out]) | (go_at_call 28; go_must (refine (digit_any b _).mono ?_); rintro e w1 ⟨rfl, rfl⟩; rw [HD.out])
        go_quiet (fail)
        go_wp2_with first | (go_at_call 43; go_must (refine (word_word s _).mono ?_); rintro e w1 ⟨rfl, rfl⟩; rw [HX.out]) | (go_at_call 31; go_must (refine (put_any _ cb S c (HC.out.kp ((Kp.refl w).drewN _)) 1 (by unfold okI; omega) s HSS.out.1 s.size HSS.out.2).mono ?_); intro e w2 hp; obtain ⟨he, hc2, hb2⟩ := CutP.of_ok hp HQ.out; subst he; clear hp)
        first | go_end0 | refine bodyPost_ret (results_none rfl _ _ _) rfl ?_
        exact ⟨.inl ⟨_, HN2.out.trans HQ.out, rfl, hc2⟩, Below.trans (Below.mono ((Kp.refl w).drewN _) (Nat.le_of_lt HC.out.lt)) hb2⟩
       | error er =>
        have HQ := hid hq
        clear hq
        go_wp2_with first | (go_at_call 26; go_must (refine (letter_any b _).mono ?_); rintro e w1 ⟨rfl, rfl⟩; rw [HL.out]) | (go_at_call 28; go_must (refine (digit_any b _).mono ?_); rintro e w1 ⟨rfl, rfl⟩; rw [HD.out])
        go_quiet (fail)
        go_wp2_with first | (go_at_call 43; go_must (refine (word_word s _).mono ?_); rintro e w1 ⟨rfl, rfl⟩; rw [HX.out]) | (go_at_call 31; go_must (refine (put_any _ cb S c (HC.out.kp ((Kp.refl w).drewN _)) 1 (by unfold okI; omega) s HSS.out.1 s.size HSS.out.2).mono ?_); intro e w2 hp; obtain ⟨he, hb2⟩ := CutP.of_err hp HQ.out; unfold stopE at he; subst he; clear hp)
        exact ⟨rfl, .inr ⟨_, HN2.out.trans HQ.out, rfl⟩, Below.trans (Below.mono ((Kp.refl w).drewN _) (Nat.le_of_lt HC.out.lt)) hb2⟩
      ·cases hq : putM c 5 s s.size with
       | ok c2 =>
        have HQ := hid hq
        clear hq
        go_wp2_with first | (go_at_call 26; go_must (refine (letter_any b _).mono ?_); rintro e w1 ⟨rfl, rfl⟩; rw [HL.out]) | (go_at_call 28; go_must (refine (digit_any b _).mono ?_); rintro e w1 ⟨rfl, rfl⟩; rw [HD.out])
        go_quiet (fail)
        go_wp2_with first | (go_at_call 43; go_must (refine (word_word s _).mono ?_); rintro e w1 ⟨rfl, rfl⟩; rw [HX.out]) | (go_at_call 31; go_must (refine (put_any _ cb S c (HC.out.kp ((Kp.refl w).drewN _)) 5 (by unfold okI; omega) s HSS.out.1 s.size HSS.out.2).mono ?_); intro e w2 hp; obtain ⟨he, hc2, hb2⟩ := CutP.of_ok hp HQ.out; subst he; clear hp)
        first | go_end0 | refine bodyPost_ret (results_none rfl _ _ _) rfl ?_
        exact ⟨.inl ⟨_, HN2.out.trans HQ.out, rfl, hc2⟩, Below.trans (Below.mono ((Kp.refl w).drewN _) (Nat.le_of_lt HC.out.lt)) hb2⟩
       | error er =>
        have HQ := hid hq
        clear hq
        go_wp2_with first | (go_at_call 26; go_must (refine (letter_any b _).mono ?_); rintro e w1 ⟨rfl, rfl⟩; rw [HL.out]) | (go_at_call 28; go_must (refine (digit_any b _).mono ?_); rintro e w1 ⟨rfl, rfl⟩; rw [HD.out])
        go_quiet (fail)
        go_wp2_with first | (go_at_call 43; go_must (refine (word_word s _).mono ?_); rintro e w1 ⟨rfl, rfl⟩; rw [HX.out]) | (go_at_call 31; go_must (refine (put_any _ cb S c (HC.out.kp ((Kp.refl w).drewN _)) 5 (by unfold okI; omega) s HSS.out.1 s.size HSS.out.2).mono ?_); intro e w2 hp; obtain ⟨he, hb2⟩ := CutP.of_err hp HQ.out; unfold stopE at he; subst he; clear hp)
        exact ⟨rfl, .inr ⟨_, HN2.out.trans HQ.out, rfl⟩, Below.trans (Below.mono ((Kp.refl w).drewN _) (Nat.le_of_lt HC.out.lt)) hb2⟩
  ·have i1 : ¬ (k : Int) < (S.size : Int) := by omega
   obtain ⟨s, hs⟩ : ∃ s, S.extract c.pos k = s := ⟨_, rfl⟩
   obtain ⟨hnm, hsz⟩ := name_at hsp (.inl (Nat.le_of_not_lt hk)) hs
   obtain ⟨hsp1, hsp2, _⟩ := hsp
   have HNM := hid hnm
   have HSS := hid (show s.size ≤ 140737488351232 ∧ c.pos + s.size ≤ S.size by have := BD.out.size; omega)
   have j1 : (0 : Int) ≤ (c.pos : Int) := by omega
   have j2 : (c.pos : Int) ≤ (k : Int) := by omega
   have j3 : (k : Int) ≤ (S.size : Int) := by omega
   clear hnm hsz hsp1 hsp2
   by_cases h16 : 16 < s.size
   ·have j4 : (16 : Int) < (s.size : Int) := by omega
    have HN2 := hid (HNM.out.trans (if_pos h16))
    clear h16
    go_wp2_with fail
    go_quiet (fail)
    go_wp2_with (go_at_call 33; go_must (refine (fail_any _ cb S c (HC.out.kp ((Kp.refl w).drewN _)) 7).mono ?_); rintro e w1 ⟨he, hk1⟩; unfold stopE at he; subst he)
    exact ⟨rfl, .inr ⟨_, HN2.out, rfl⟩, Below.mono (((Kp.refl w).drewN _).trans hk1) (Nat.le_of_lt HC.out.lt)⟩
   ·have j4 : ¬ (16 : Int) < (s.size : Int) := by omega
    have HN2 := hid (HNM.out.trans (if_neg h16))
    clear h16
    obtain ⟨x, hx⟩ : ∃ x, isWord s.data.toList = x := ⟨_, rfl⟩
    rw [hx] at HN2
    have HX := hid hx
    clear hx
    cases x
    ·cases hq : putM c 1 s s.size with
     | ok c2 =>
      have HQ := hid hq
      clear hq
      go_wp2_with fail
      go_quiet (fail)
      go_wp2_with first | (go_at_call 43; go_must (refine (word_word s _).mono ?_); rintro e w1 ⟨rfl, rfl⟩; rw [HX.out]) | (go_at_call 31; go_must (refine (put_any _ cb S c (HC.out.kp ((Kp.refl w).drewN _)) 1 (by unfold okI; omega) s HSS.out.1 s.size HSS.out.2).mono ?_); intro e w2 hp; obtain ⟨he, hc2, hb2⟩ := CutP.of_ok hp HQ.out; subst he; clear hp)
      first | go_end0 | refine bodyPost_ret (results_none rfl _ _ _) rfl ?_
      exact ⟨.inl ⟨_, HN2.out.trans HQ.out, rfl, hc2⟩, Below.trans (Below.mono ((Kp.refl w).drewN _) (Nat.le_of_lt HC.out.lt)) hb2⟩
     | error er =>
      have HQ := hid hq
      clear hq
      go_wp2_with fail
      go_quiet (fail)
      go_wp2_with first | (go_at_call 43; go_must (refine (word_word s _).mono ?_); rintro e w1 ⟨rfl, rfl⟩; rw [HX.out]) | (go_at_call 31; go_must (refine (put_any _ cb S c (HC.out.kp ((Kp.refl w).drewN _)) 1 (by unfold okI; omega) s HSS.out.1 s.size HSS.out.2).mono ?_); intro e w2 hp; obtain ⟨he, hb2⟩ := CutP.of_err hp HQ.out; unfold stopE at he; subst he; clear hp)
      exact ⟨rfl, .inr ⟨_, HN2.out.trans HQ.out, rfl⟩, Below.trans (Below.mono ((Kp.refl w).drewN _) (Nat.le_of_lt HC.out.lt)) hb2⟩
    ·cases hq : putM c 5 s s.size with
     | ok c2 =>
      have HQ := hid hq
      clear hq
      go_wp2_with fail
      go_quiet (fail)
      go_wp2_with first | (go_at_call 43; go_must (refine (word_word s _).mono ?_); rintro e w1 ⟨rfl, rfl⟩; rw [HX.out]) | (go_at_call 31; go_must (refine (put_any _ cb S c (HC.out.kp ((Kp.refl w).drewN _)) 5 (by unfold okI; omega) s HSS.out.1 s.size HSS.out.2).mono ?_); intro e w2 hp; obtain ⟨he, hc2, hb2⟩ := CutP.of_ok hp HQ.out; subst he; clear hp)
      first | go_end0 | refine bodyPost_ret (results_none rfl _ _ _) rfl ?_
      exact ⟨.inl ⟨_, HN2.out.trans HQ.out, rfl, hc2⟩, Below.trans (Below.mono ((Kp.refl w).drewN _) (Nat.le_of_lt HC.out.lt)) hb2⟩
     | error er =>
      have HQ := hid hq
      clear hq
      go_wp2_with fail
      go_quiet (fail)
      go_wp2_with first | (go_at_call 43; go_must (refine (word_word s _).mono ?_); rintro e w1 ⟨rfl, rfl⟩; rw [HX.out]) | (go_at_call 31; go_must (refine (put_any _ cb S c (HC.out.kp ((Kp.refl w).drewN _)) 5 (by unfold okI; omega) s HSS.out.1 s.size HSS.out.2).mono ?_); intro e w2 hp; obtain ⟨he, hb2⟩ := CutP.of_err hp HQ.out; unfold stopE at he; subst he; clear hp)
      exact ⟨rfl, .inr ⟨_, HN2.out.trans HQ.out, rfl⟩, Below.trans (Below.mono ((Kp.refl w).drewN _) (Nat.le_of_lt HC.out.lt)) hb2⟩
open Classical in
noncomputable def numberM (S : ByteArray) (c : CutM) : Except Err CutM :=
 if NumP ((restOf S c.pos).take (span_ wordB (restOf S c.pos))) then putM c 2 (S.extract c.pos (c.pos + span_ wordB (restOf S c.pos))) (span_ wordB (restOf S c.pos)) else .error (3, c.line, c.col)
theorem number_at {S : ByteArray} {c : CutM} {k : Nat} {s : ByteArray} (h : SpanI wordB S c.pos k) (hf : S.size ≤ k ∨ ∃ hk : k < S.size, wordB S[k] = false) (hs : S.extract c.pos k = s) : (NumP s.data.toList → numberM S c = putM c 2 s s.size) ∧ (¬ NumP s.data.toList → numberM S c = .error (3, c.line, c.col)) ∧ s.size = k - c.pos := by
 have hfin := h.fin hf
 obtain ⟨h1, h2, _⟩ := h
 have hz := ext_size h1 h2
 rw [hs] at hz
 unfold numberM
 rw [← ext_rest, hfin, hs, show span_ wordB (restOf S c.pos) = s.size by omega]
 exact ⟨fun hn => if_pos hn, fun hn => if_neg hn, hz⟩
theorem bytes_eq {s : ByteArray} {l : Bs} (h : s.data.toList = l) : s = ⟨l.toArray⟩ := by
 subst h; cases s; simp
theorem read_yes (s : ByteArray) (w : World) (h : NumP s.data.toList) : Calls Try.prog 44 #[.string s] w fun e w' => (∃ n, e = .returned (.tuple #[.int .i64 n, .int .i64 0])) ∧ Kp w w' := by
 obtain ⟨n, h1, h2, h3⟩ := h
 rw [bytes_eq h3.symm]
 exact (read_hit n w ⟨h1, h2⟩).mono fun e w' ⟨h4, h5⟩ => ⟨⟨n, h4⟩, h5⟩
theorem read_no (s : ByteArray) (w : World) (h : ¬ NumP s.data.toList) (hs : s.size ≤ 140737488351232) : Calls Try.prog 44 #[.string s] w fun e w' => e = .returned (.tuple #[.int .i64 0, .int .i64 3]) ∧ Kp w w' := by
 refine read_miss s w (fun n hn => ?_) (by unfold maxLen; omega)
 rw [beq_eq_false_iff_ne]
 intro e
 exact h ⟨n, hn.1, hn.2, by rw [e, ByteArray.toList_eq]⟩
theorem number_any (w : World) (cb : Nat) (S : ByteArray) (c : CutM) (h : CutS w cb S c) : Calls Try.prog 29 #[.pointer (some ⟨cb, 0, none⟩)] w (CutP w cb S (numberM S c)) := by
 have HC := hid h
 obtain ⟨⟨ov, h⟩, bd⟩ := h
 have H := hid h; have BD := hid bd
 have c0 := h.c0; have c1 := h.c1
 have hlt := h.lt
 have HS0 := hid (show SpanI wordB S c.pos c.pos from ⟨Nat.le_refl _, bd.pos, by omega⟩)
 clear h bd
 go_enter Try.func29, Try.ntmps29
 go_wp2_with fail
 go_loop [2] (fun n => ∃ k : Nat, n = .int .i64 (k : Int) ∧ SpanI wordB S c.pos k) (fun n => S.size - (intOf n).toNat)
 case atStart => exact ⟨_, rfl, HS0.out⟩
 case round =>
  obtain ⟨k, rfl, hsp⟩ := hrel
  have HSP := hid hsp
  by_cases hk : k < S.size
  ·obtain ⟨b, hb⟩ : ∃ b, S[k] = b := ⟨_, rfl⟩
   have HB := hid hb
   have i1 : (k : Int) < (S.size : Int) := by omega
   have HW := hid (wrap_up (n := k) (by have := BD.out.size; omega))
   clear hsp
   cases hl : letterB b with
   | true =>
    have HL := hid hl
    clear hl
    go_wp2_with (go_at_call 26; go_must (refine (letter_any b _).mono ?_); rintro e w1 ⟨rfl, rfl⟩; rw [HL.out])
    exact span_up (HSP.out.up hk HB.out (word_yes1 HL.out)) HW.out hk
   | false =>
    have HL := hid hl
    clear hl
    cases hd : digitB b with
    | true =>
     have HD := hid hd
     clear hd
     go_wp2_with first | (go_at_call 26; go_must (refine (letter_any b _).mono ?_); rintro e w1 ⟨rfl, rfl⟩; rw [HL.out]) | (go_at_call 28; go_must (refine (digit_any b _).mono ?_); rintro e w1 ⟨rfl, rfl⟩; rw [HD.out])
     exact span_up (HSP.out.up hk HB.out (word_yes2 HD.out)) HW.out hk
    | false =>
     have HD := hid hd
     clear hd
     have hsp := HSP.out
     obtain ⟨s, hs⟩ : ∃ s, S.extract c.pos k = s := ⟨_, rfl⟩
     obtain ⟨hnm, hno, hsz⟩ := number_at hsp (.inr ⟨hk, by rw [HB.out]; exact word_no HL.out HD.out⟩) hs
     obtain ⟨hsp1, hsp2, _⟩ := hsp
     have HNM := hid hnm; have HNO := hid hno
     have HSS := hid (show s.size ≤ 140737488351232 ∧ c.pos + s.size ≤ S.size by have := BD.out.size; omega)
     have j1 : (0 : Int) ≤ (c.pos : Int) := by omega
     have j2 : (c.pos : Int) ≤ (k : Int) := by omega
     have j3 : (k : Int) ≤ (S.size : Int) := by omega
     clear hnm hno hsz hsp1 hsp2
     by_cases hN : NumP s.data.toList
     ·have HN2 := hid (HNM.out hN)
      have HNN := hid hN
      clear hN
      cases hq : putM c 2 s s.size with
      | ok c2 =>
       have HQ := hid hq
       clear hq
       go_wp2_with first | (go_at_call 26; go_must (refine (letter_any b _).mono ?_); rintro e w1 ⟨rfl, rfl⟩; rw [HL.out]) | (go_at_call 28; go_must (refine (digit_any b _).mono ?_); rintro e w1 ⟨rfl, rfl⟩; rw [HD.out])
       go_quiet (fail)
       go_wp2_with first | (go_at_call 44; go_must (refine (read_yes s _ HNN.out).mono ?_); rintro e w1 ⟨⟨nn, rfl⟩, hk1⟩; have HK1 := hid hk1; clear hk1) | (go_at_call 31; go_must (refine (put_any _ cb S c (HC.out.kp (((Kp.refl w).drewN _).trans HK1.out)) 2 (by unfold okI; omega) s HSS.out.1 s.size HSS.out.2).mono ?_); intro e w2 hp; obtain ⟨he, hc2, hb2⟩ := CutP.of_ok hp HQ.out; subst he; clear hp)
       first | go_end0 | refine bodyPost_ret (results_none rfl _ _ _) rfl ?_
       exact ⟨.inl ⟨_, HN2.out.trans HQ.out, rfl, hc2⟩, Below.trans (Below.mono ((((Kp.refl w).drewN _).trans HK1.out)) (Nat.le_of_lt HC.out.lt)) hb2⟩
      | error er =>
       have HQ := hid hq
       clear hq
       go_wp2_with first | (go_at_call 26; go_must (refine (letter_any b _).mono ?_); rintro e w1 ⟨rfl, rfl⟩; rw [HL.out]) | (go_at_call 28; go_must (refine (digit_any b _).mono ?_); rintro e w1 ⟨rfl, rfl⟩; rw [HD.out])
       go_quiet (fail)
       go_wp2_with first | (go_at_call 44; go_must (refine (read_yes s _ HNN.out).mono ?_); rintro e w1 ⟨⟨nn, rfl⟩, hk1⟩; have HK1 := hid hk1; clear hk1) | (go_at_call 31; go_must (refine (put_any _ cb S c (HC.out.kp (((Kp.refl w).drewN _).trans HK1.out)) 2 (by unfold okI; omega) s HSS.out.1 s.size HSS.out.2).mono ?_); intro e w2 hp; obtain ⟨he, hb2⟩ := CutP.of_err hp HQ.out; unfold stopE at he; subst he; clear hp)
       exact ⟨rfl, .inr ⟨_, HN2.out.trans HQ.out, rfl⟩, Below.trans (Below.mono ((((Kp.refl w).drewN _).trans HK1.out)) (Nat.le_of_lt HC.out.lt)) hb2⟩
     ·have HN2 := hid (HNO.out hN)
      have HNN := hid hN
      clear hN
      go_wp2_with first | (go_at_call 26; go_must (refine (letter_any b _).mono ?_); rintro e w1 ⟨rfl, rfl⟩; rw [HL.out]) | (go_at_call 28; go_must (refine (digit_any b _).mono ?_); rintro e w1 ⟨rfl, rfl⟩; rw [HD.out])
      go_quiet (fail)
      go_wp2_with first | (go_at_call 44; go_must (refine (read_no s _ HNN.out HSS.out.1).mono ?_); rintro e w1 ⟨rfl, hk1⟩; have HK1 := hid hk1; clear hk1) | (go_at_call 33; go_must (refine (fail_any _ cb S c (HC.out.kp (((Kp.refl w).drewN _).trans HK1.out)) 3).mono ?_); rintro e w2 ⟨he, hk2⟩; unfold stopE at he; subst he)
      exact ⟨rfl, .inr ⟨_, HN2.out, rfl⟩, Below.mono ((((Kp.refl w).drewN _).trans HK1.out).trans hk2) (Nat.le_of_lt HC.out.lt)⟩
  ·have i1 : ¬ (k : Int) < (S.size : Int) := by omega
   obtain ⟨s, hs⟩ : ∃ s, S.extract c.pos k = s := ⟨_, rfl⟩
   obtain ⟨hnm, hno, hsz⟩ := number_at hsp (.inl (Nat.le_of_not_lt hk)) hs
   obtain ⟨hsp1, hsp2, _⟩ := hsp
   have HNM := hid hnm; have HNO := hid hno
   have HSS := hid (show s.size ≤ 140737488351232 ∧ c.pos + s.size ≤ S.size by have := BD.out.size; omega)
   have j1 : (0 : Int) ≤ (c.pos : Int) := by omega
   have j2 : (c.pos : Int) ≤ (k : Int) := by omega
   have j3 : (k : Int) ≤ (S.size : Int) := by omega
   clear hnm hno hsz hsp1 hsp2
   by_cases hN : NumP s.data.toList
   ·have HN2 := hid (HNM.out hN)
    have HNN := hid hN
    clear hN
    cases hq : putM c 2 s s.size with
    | ok c2 =>
     have HQ := hid hq
     clear hq
     go_wp2_with fail
     go_quiet (fail)
     go_wp2_with first | (go_at_call 44; go_must (refine (read_yes s _ HNN.out).mono ?_); rintro e w1 ⟨⟨nn, rfl⟩, hk1⟩; have HK1 := hid hk1; clear hk1) | (go_at_call 31; go_must (refine (put_any _ cb S c (HC.out.kp (((Kp.refl w).drewN _).trans HK1.out)) 2 (by unfold okI; omega) s HSS.out.1 s.size HSS.out.2).mono ?_); intro e w2 hp; obtain ⟨he, hc2, hb2⟩ := CutP.of_ok hp HQ.out; subst he; clear hp)
     first | go_end0 | refine bodyPost_ret (results_none rfl _ _ _) rfl ?_
     exact ⟨.inl ⟨_, HN2.out.trans HQ.out, rfl, hc2⟩, Below.trans (Below.mono ((((Kp.refl w).drewN _).trans HK1.out)) (Nat.le_of_lt HC.out.lt)) hb2⟩
    | error er =>
     have HQ := hid hq
     clear hq
     go_wp2_with fail
     go_quiet (fail)
     go_wp2_with first | (go_at_call 44; go_must (refine (read_yes s _ HNN.out).mono ?_); rintro e w1 ⟨⟨nn, rfl⟩, hk1⟩; have HK1 := hid hk1; clear hk1) | (go_at_call 31; go_must (refine (put_any _ cb S c (HC.out.kp (((Kp.refl w).drewN _).trans HK1.out)) 2 (by unfold okI; omega) s HSS.out.1 s.size HSS.out.2).mono ?_); intro e w2 hp; obtain ⟨he, hb2⟩ := CutP.of_err hp HQ.out; unfold stopE at he; subst he; clear hp)
     exact ⟨rfl, .inr ⟨_, HN2.out.trans HQ.out, rfl⟩, Below.trans (Below.mono ((((Kp.refl w).drewN _).trans HK1.out)) (Nat.le_of_lt HC.out.lt)) hb2⟩
   ·have HN2 := hid (HNO.out hN)
    have HNN := hid hN
    clear hN
    go_wp2_with fail
    go_quiet (fail)
    go_wp2_with first | (go_at_call 44; go_must (refine (read_no s _ HNN.out HSS.out.1).mono ?_); rintro e w1 ⟨rfl, hk1⟩; have HK1 := hid hk1; clear hk1) | (go_at_call 33; go_must (refine (fail_any _ cb S c (HC.out.kp (((Kp.refl w).drewN _).trans HK1.out)) 3).mono ?_); rintro e w2 ⟨he, hk2⟩; unfold stopE at he; subst he)
    exact ⟨rfl, .inr ⟨_, HN2.out, rfl⟩, Below.mono ((((Kp.refl w).drewN _).trans HK1.out).trans hk2) (Nat.le_of_lt HC.out.lt)⟩
end Go.Proofs.Ytcjgagmcnmmfoaa

namespace Go.Proofs.Ytcjgagmcnmmfoaa
open Go.RowKit

theorem txt_end (r : Bs) : txtLen (34 :: r) = some 0 := by
 cases r with
 | nil => rfl
 | cons d r => rw [txtLen, if_pos rfl]
theorem txt_nl (r : Bs) : txtLen (10 :: r) = none := by
 cases r with
 | nil => rfl
 | cons d r => rw [txtLen, if_neg (by decide), if_pos rfl]
theorem txt_esc (S : ByteArray) (k : Nat) (hk : k < S.size) (h : S[k] = 92) : txtLen (restOf S k) = (txtLen (restOf S (k + 2))).map (· + 2) := by
 rw [rest_cons hk, h]
 by_cases h2 : k + 1 < S.size
 ·rw [rest_cons h2, txtLen, if_neg (by decide), if_neg (by decide), if_pos rfl]
 ·rw [rest_nil (by omega), rest_nil (by omega)]; rfl
theorem txt_up (S : ByteArray) (k : Nat) (hk : k < S.size) (b : UInt8) (hb : S[k] = b) (h1 : b ≠ 34) (h2 : b ≠ 10) (h3 : b ≠ 92) : txtLen (restOf S k) = (txtLen (restOf S (k + 1))).map (· + 1) := by
 rw [rest_cons hk, hb]
 by_cases h4 : k + 1 < S.size
 ·rw [rest_cons h4, txtLen, if_neg h1, if_neg h2, if_neg h3]
 ·rw [rest_nil (by omega)]; simp [txtLen, h1]
def TxtI (S : ByteArray) (a k : Nat) : Prop := a ≤ k ∧ k ≤ S.size + 1 ∧ txtLen (restOf S a) = (txtLen (restOf S k)).map (· + (k - a))
theorem TxtI.start (S : ByteArray) (a : Nat) (h : a ≤ S.size + 1) : TxtI S a a := ⟨Nat.le_refl _, h, by cases txtLen (restOf S a) <;> simp⟩
theorem TxtI.step {S : ByteArray} {a k d : Nat} (h : TxtI S a k) (hd : txtLen (restOf S k) = (txtLen (restOf S (k + d))).map (· + d)) (hk : k + d ≤ S.size + 1) : TxtI S a (k + d) := by
 obtain ⟨h1, h2, h3⟩ := h
 refine ⟨by omega, hk, ?_⟩
 rw [h3, hd]
 cases txtLen (restOf S (k + d)) with
 | none => rfl
 | some j => simp; omega
theorem txt_round {S : ByteArray} {a k d : Nat} {v : Value} (h : TxtI S a (k + d)) (hd : 0 < d) (hv : v = .int .i64 ((k + d : Nat) : Int)) (hk : k < S.size) : (∃ k' : Nat, v = .int .i64 (k' : Int) ∧ TxtI S a k') ∧ S.size - (intOf v).toNat < S.size - (intOf (.int .i64 (k : Int))).toNat := by
 subst hv
 exact ⟨⟨k + d, rfl, h⟩, by simp only [intOf, Int.toNat_natCast]; omega⟩
def textM (S : ByteArray) (c : CutM) : Except Err CutM := match txtLen (restOf S (c.pos + 1)) with
 | none => .error (4, c.line, c.col)
 | some k => if okText ((restOf S (c.pos + 1)).take k) then putM c 3 (S.extract c.pos (c.pos + (k + 2))) (k + 2) else .error (4, c.line, c.col)
theorem unq_yes (s : ByteArray) (l : Bs) (w : World) (hs : s = ⟨(34 :: (l ++ [34])).toArray⟩) (hl : l.length ≤ 8000) (h : okText l = true) : Calls Try.prog 45 #[.string s] w fun e w' => (∃ o, e = .returned (.tuple #[.string o, .int .i64 0])) ∧ Kp w w' := by
 subst hs
 refine (unquote_mk l w (by omega)).mono ?_
 rintro e w' ⟨h1, h2⟩
 refine ⟨?_, h2⟩
 rcases h1 with ⟨o, _, _, h3⟩ | ⟨h3, h4⟩
 ·exact ⟨_, h3⟩
 ·unfold okText at h
  cases hu : unq l with
  | none => rw [hu] at h; cases h
  | some o =>
   rw [hu] at h
   have := h3 o hu
   simp at h; omega
theorem unq_no (s : ByteArray) (l : Bs) (w : World) (hs : s = ⟨(34 :: (l ++ [34])).toArray⟩) (hl : l.length ≤ 8000) (h : okText l = false) : Calls Try.prog 45 #[.string s] w fun e w' => (∃ o, e = .returned (.tuple #[.string o, .int .i64 4])) ∧ Kp w w' := by
 subst hs
 refine (unquote_mk l w (by omega)).mono ?_
 rintro e w' ⟨h1, h2⟩
 refine ⟨?_, h2⟩
 rcases h1 with ⟨o, h3, h4, _⟩ | ⟨h3, h4⟩
 ·unfold okText at h
  rw [show unq l = some o from h3] at h
  simp at h; omega
 ·exact ⟨_, h4⟩
theorem text_none {S : ByteArray} {c : CutM} (h : txtLen (restOf S (c.pos + 1)) = none) : textM S c = .error (4, c.line, c.col) := by unfold textM; rw [h]
theorem text_some {S : ByteArray} {c : CutM} {k : Nat} {s : ByteArray} (hk : k < S.size) (h : TxtI S (c.pos + 1) k) (h0 : restOf S c.pos = 34 :: restOf S (c.pos + 1)) (hb : S[k] = 34) (hs : S.extract c.pos (k + 1) = s) :
  ∃ l : Bs, s = ⟨(34 :: (l ++ [34])).toArray⟩ ∧ l.length ≤ S.size ∧ s.size ≤ S.size ∧ c.pos + s.size ≤ S.size ∧ textM S c = if okText l then putM c 3 s s.size else .error (4, c.line, c.col) := by
 obtain ⟨h1, h2, h3⟩ := h
 rw [rest_cons hk, hb, txt_end] at h3
 have hz := ext_size (S := S) (a := c.pos) (k := k + 1) (by omega) (by omega)
 have hsl : s.data.toList = (restOf S c.pos).take (k - c.pos + 1) := by
  rw [← hs, show k + 1 = c.pos + (k - c.pos + 1) by omega, ext_rest]
 have hr : restOf S (c.pos + 1) = (restOf S (c.pos + 1)).take (k - (c.pos + 1)) ++ 34 :: restOf S (k + 1) := by
  have e := List.take_append_drop (k - (c.pos + 1)) (restOf S (c.pos + 1))
  rw [rest_drop, show c.pos + 1 + (k - (c.pos + 1)) = k by omega, rest_cons hk, hb] at e
  exact e.symm
 have hll : ((restOf S (c.pos + 1)).take (k - (c.pos + 1))).length = k - (c.pos + 1) := by
  rw [List.length_take, rest_len]; omega
 refine ⟨(restOf S (c.pos + 1)).take (k - (c.pos + 1)), ?_, by rw [hll]; omega, by rw [← hs]; omega, by rw [← hs]; omega, ?_⟩
 ·refine bytes_eq ?_
  rw [hsl, h0, show k - c.pos + 1 = (k - (c.pos + 1) + 1) + 1 by omega, List.take_succ_cons]
  congr 1
  conv => lhs; rw [hr]
  rw [List.take_append, hll, List.take_of_length_le (by rw [hll]; omega), show k - (c.pos + 1) + 1 - (k - (c.pos + 1)) = 1 by omega]
  rfl
 ·unfold textM
  rw [h3]
  dsimp only [Option.map_some]
  rw [Nat.zero_add]
  have e1 : c.pos + (k - (c.pos + 1) + 2) = k + 1 := by omega
  have e2 : k - (c.pos + 1) + 2 = s.size := by rw [← hs]; omega
  rw [e1, hs, e2]
theorem ctext_any (w : World) (cb : Nat) (S : ByteArray) (c : CutM) (h : CutS w cb S c) (h0 : restOf S c.pos = 34 :: restOf S (c.pos + 1)) : Calls Try.prog 30 #[.pointer (some ⟨cb, 0, none⟩)] w (CutP w cb S (textM S c)) := by
 have HC := hid h
 obtain ⟨⟨ov, h⟩, bd⟩ := h
 have H := hid h; have BD := hid bd
 have c0 := h.c0; have c1 := h.c1
 have hlt := h.lt
 have H0 := hid h0
 have hpl : c.pos < S.size := by have := congrArg List.length h0; rw [rest_len, List.length_cons, rest_len] at this; omega
 obtain ⟨p1, hp1⟩ : ∃ p1, c.pos + 1 = p1 := ⟨_, rfl⟩
 have HP1 := hid hp1
 have HS0 := hid (TxtI.start S p1 (by omega))
 have HPL := hid hpl
 have w1 : IntKind.i64.wrap ((c.pos : Int) + 1) = (p1 : Int) := by rw [IntKind.wrap_i64]; have := bd.size; omega
 clear h bd h0 hp1 hpl
 go_enter Try.func30, Try.ntmps30
 go_wp2_with fail
 clear w1
 go_loop [2] (fun n => ∃ k : Nat, n = .int .i64 (k : Int) ∧ TxtI S p1 k) (fun n => S.size - (intOf n).toNat)
 case atStart => exact ⟨_, rfl, HS0.out⟩
 case round =>
  obtain ⟨k, rfl, hti⟩ := hrel
  have HTI := hid hti
  have hk9 := hti.2.1
  have hk1 := hti.1
  clear hti
  by_cases hk : k < S.size
  ·obtain ⟨b, hb⟩ : ∃ b, S[k] = b := ⟨_, rfl⟩
   have HB := hid hb
   have i1 : (k : Int) < (S.size : Int) := by omega
   have b34 := byte_beq b 34 (by decide)
   have b10 := byte_beq b 10 (by decide)
   have b92 := byte_beq b 92 (by decide)
   by_cases e34 : b = 34
   ·subst e34
    have i2 : ¬ (S.size : Int) ≤ (k : Int) := by omega
    have hti2 := HTI.out
    rw [← HP1.out] at hti2
    obtain ⟨s, hs⟩ : ∃ s, S.extract c.pos (k + 1) = s := ⟨_, rfl⟩
    obtain ⟨l, hsl, hll, hss, hsp, htm⟩ := text_some hk hti2 H0.out hb hs
    obtain ⟨k1, hk1'⟩ : ∃ k1, k + 1 = k1 := ⟨_, rfl⟩
    rw [hk1'] at hs
    have hp9 := HP1.out
    have j0 : IntKind.i64.wrap ((k : Int) + 1) = (k1 : Int) := by rw [IntKind.wrap_i64]; have := BD.out.size; omega
    have j1 : (0 : Int) ≤ (c.pos : Int) := by omega
    have j2 : (c.pos : Int) ≤ (k1 : Int) := by omega
    have j3 : (k1 : Int) ≤ (S.size : Int) := by omega
    have HSL := hid hsl
    have HLL := hid (show l.length ≤ 8000 by have := BD.out.size; omega)
    have HSS := hid (show s.size ≤ 140737488351232 ∧ c.pos + s.size ≤ S.size by have := BD.out.size; omega)
    clear hti2 hsl hll hss hsp hk1' hp9 b34 b10 b92
    cases ht : okText l with
    | true =>
     have HT := hid ht
     have HN2 := hid (htm.trans (if_pos ht))
     clear ht htm
     cases hq : putM c 3 s s.size with
     | ok c2 =>
      have HQ := hid hq
      clear hq
      go_wp2_with fail
      go_quiet (fail)
      go_wp2_with first | (go_at_call 45; go_must (refine (unq_yes s l _ HSL.out HLL.out HT.out).mono ?_); rintro e w1 ⟨⟨o, rfl⟩, hk1⟩; have HK1 := hid hk1; clear hk1) | (go_at_call 31; go_must (refine (put_any _ cb S c (HC.out.kp (((Kp.refl w).drewN _).trans HK1.out)) 3 (by unfold okI; omega) s HSS.out.1 s.size HSS.out.2).mono ?_); intro e w2 hp; obtain ⟨he, hc2, hb2⟩ := CutP.of_ok hp HQ.out; subst he; clear hp)
      first | go_end0 | refine bodyPost_ret (results_none rfl _ _ _) rfl ?_
      exact ⟨.inl ⟨_, HN2.out.trans HQ.out, rfl, hc2⟩, Below.trans (Below.mono (((Kp.refl w).drewN _).trans HK1.out) (Nat.le_of_lt HC.out.lt)) hb2⟩
     | error er =>
      have HQ := hid hq
      clear hq
      go_wp2_with fail
      go_quiet (fail)
      go_wp2_with first | (go_at_call 45; go_must (refine (unq_yes s l _ HSL.out HLL.out HT.out).mono ?_); rintro e w1 ⟨⟨o, rfl⟩, hk1⟩; have HK1 := hid hk1; clear hk1) | (go_at_call 31; go_must (refine (put_any _ cb S c (HC.out.kp (((Kp.refl w).drewN _).trans HK1.out)) 3 (by unfold okI; omega) s HSS.out.1 s.size HSS.out.2).mono ?_); intro e w2 hp; obtain ⟨he, hb2⟩ := CutP.of_err hp HQ.out; unfold stopE at he; subst he; clear hp)
      exact ⟨rfl, .inr ⟨_, HN2.out.trans HQ.out, rfl⟩, Below.trans (Below.mono (((Kp.refl w).drewN _).trans HK1.out) (Nat.le_of_lt HC.out.lt)) hb2⟩
    | false =>
     have HT := hid ht
     have HN2 := hid (htm.trans (if_neg (by rw [ht]; decide)))
     clear ht htm
     go_wp2_with fail
     go_quiet (fail)
     go_wp2_with first | (go_at_call 45; go_must (refine (unq_no s l _ HSL.out HLL.out HT.out).mono ?_); rintro e w1 ⟨⟨o, rfl⟩, hk1⟩; have HK1 := hid hk1; clear hk1) | (go_at_call 33; go_must (refine (fail_any _ cb S c (HC.out.kp (((Kp.refl w).drewN _).trans HK1.out)) 4).mono ?_); rintro e w2 ⟨he, hk2⟩; unfold stopE at he; subst he)
     exact ⟨rfl, .inr ⟨_, HN2.out, rfl⟩, Below.mono ((((Kp.refl w).drewN _).trans HK1.out).trans hk2) (Nat.le_of_lt HC.out.lt)⟩
   ·have n34 : ((b.toNat : Int) == 34) = false := b34.trans (beq_eq_false_iff_ne.2 e34)
    have m34 : ((b.toNat : Int) != 34) = true := by rw [bne, n34]; rfl
    by_cases e10 : b = 10
    ·subst e10
     have i2 : ¬ (S.size : Int) ≤ (k : Int) := by omega
     have HN2 := hid (text_none (S := S) (c := c) (by rw [HP1.out, HTI.out.2.2, rest_cons hk, hb, txt_nl]; rfl))
     clear b34 b10 b92 n34 m34 e34
     go_wp2_with (go_at_call 33; go_must (refine (fail_any _ cb S c HC.out 4).mono ?_); rintro e w2 ⟨he, hk2⟩; unfold stopE at he; subst he)
     exact ⟨rfl, .inr ⟨_, HN2.out, rfl⟩, Below.mono hk2 (Nat.le_of_lt HC.out.lt)⟩
    ·have n10 : ((b.toNat : Int) == 10) = false := b10.trans (beq_eq_false_iff_ne.2 e10)
     have m10 : ((b.toNat : Int) != 10) = true := by rw [bne, n10]; rfl
     by_cases e92 : b = 92
     ·have HS2 := hid (HTI.out.step (txt_esc S k hk (by rw [hb, e92])) (by omega))
      have n92 : ((b.toNat : Int) == 92) = true := b92.trans (by rw [e92]; rfl)
      obtain ⟨k1, hk1'⟩ : ∃ k1, k + 1 = k1 := ⟨_, rfl⟩
      obtain ⟨k2, hk2'⟩ : ∃ k2, k + 2 = k2 := ⟨_, rfl⟩
      have j0 : IntKind.i64.wrap ((k : Int) + 1) = (k1 : Int) := by rw [IntKind.wrap_i64]; have := BD.out.size; omega
      have j1 : IntKind.i64.wrap ((k1 : Int) + 1) = (k2 : Int) := by rw [IntKind.wrap_i64]; have := BD.out.size; omega
      have HK2 := hid hk2'
      clear b34 b10 b92 e34 e10 e92 hk1' hk2'
      go_wp2
      exact txt_round (d := 2) HS2.out (by decide) (by rw [HK2.out]) hk
     ·have HS2 := hid (HTI.out.step (txt_up S k hk b hb e34 e10 e92) (by omega))
      have n92 : ((b.toNat : Int) == 92) = false := b92.trans (beq_eq_false_iff_ne.2 e92)
      obtain ⟨k1, hk1'⟩ : ∃ k1, k + 1 = k1 := ⟨_, rfl⟩
      have j0 : IntKind.i64.wrap ((k : Int) + 1) = (k1 : Int) := by rw [IntKind.wrap_i64]; have := BD.out.size; omega
      have HK2 := hid hk1'
      clear b34 b10 b92 e34 e10 e92 hk1'
      go_wp2
      exact txt_round (d := 1) HS2.out (by decide) (by rw [HK2.out]) hk
  ·have i1 : ¬ (k : Int) < (S.size : Int) := by omega
   have i2 : (S.size : Int) ≤ (k : Int) := by omega
   have HN2 := hid (text_none (S := S) (c := c) (by rw [HP1.out, HTI.out.2.2, rest_nil (by omega)]; rfl))
   clear hk9 hk1
   go_wp2_with (go_at_call 33; go_must (refine (fail_any _ cb S c HC.out 4).mono ?_); rintro e w2 ⟨he, hk2⟩; unfold stopE at he; subst he)
   exact ⟨rfl, .inr ⟨_, HN2.out, rfl⟩, Below.mono hk2 (Nat.le_of_lt HC.out.lt)⟩
end Go.Proofs.Ytcjgagmcnmmfoaa

namespace Go.Proofs.Ytcjgagmcnmmfoaa
open Go.RowKit

theorem has2_any (s : ByteArray) (w : World) : Calls Try.prog 25 #[.string s, .string ⟨#[47, 47]⟩] w fun e w' => e = .returned (.bool (s.data.toList.take 2 == [47, 47])) ∧ w = w' := by
 by_cases h2 : 2 ≤ s.size
 ·have i0 : (2 : Int) ≤ (s.size : Int) := by omega
  obtain ⟨t, ht⟩ : ∃ t, s.extract 0 2 = t := ⟨_, rfl⟩
  have hl : s.data.toList.take 2 = t.toList := by rw [← ht, ext_take]
  rw [hl]
  clear hl
  go_enter Try.func25, Try.ntmps25
  go_wp2
  go_ret
  exact ⟨rfl, rfl⟩
 ·have i0 : ¬ (2 : Int) ≤ (s.size : Int) := by omega
  have hl : (s.data.toList.take 2 == [47, 47]) = false := by
   rw [beq_eq_false_iff_ne]
   intro e
   have := congrArg List.length e
   rw [List.length_take, Array.length_toList] at this
   have e2 : s.data.size = s.size := rfl
   simp at this; omega
  rw [hl]
  clear hl
  go_enter Try.func25, Try.ntmps25
  go_wp2
  go_ret
  exact ⟨rfl, rfl⟩
section
variable {S : ByteArray} {c : CutM} {b : UInt8} {r : Bs}
theorem lex_nl (r : Bs) : lex (10 :: r) = .nl := by unfold lex; dsimp only; rw [if_pos rfl]
theorem lex_blank (r : Bs) (h1 : b ≠ 10) (h2 : b = 32 ∨ b = 9 ∨ b = 13) : lex (b :: r) = .skip 1 := by unfold lex; dsimp only; rw [if_neg h1, if_pos h2]
theorem lex_remark (h1 : b ≠ 10) (h2 : ¬ (b = 32 ∨ b = 9 ∨ b = 13)) (h3 : b = 47 ∧ r.head? = some 47) : lex (b :: r) = .skip (span_ noNl (b :: r)) := by unfold lex; dsimp only; rw [if_neg h1, if_neg h2, if_pos h3]
theorem lex_name (h1 : b ≠ 10) (h2 : ¬ (b = 32 ∨ b = 9 ∨ b = 13)) (h3 : ¬ (b = 47 ∧ r.head? = some 47)) (h4 : letterB b = true) : lex (b :: r) = if 16 < span_ wordB (b :: r) then .bad 7 else .tok (if isWord ((b :: r).take (span_ wordB (b :: r))) then 5 else 1) (span_ wordB (b :: r)) := by unfold lex; dsimp only; rw [if_neg h1, if_neg h2, if_neg h3, if_pos h4]
open Classical in
theorem lex_number (h1 : b ≠ 10) (h2 : ¬ (b = 32 ∨ b = 9 ∨ b = 13)) (h3 : ¬ (b = 47 ∧ r.head? = some 47)) (h4 : letterB b = false) (h5 : digitB b = true) : lex (b :: r) = if NumP ((b :: r).take (span_ wordB (b :: r))) then .tok 2 (span_ wordB (b :: r)) else .bad 3 := by unfold lex; dsimp only; rw [if_neg h1, if_neg h2, if_neg h3, if_neg (by rw [h4]; decide), if_pos h5]
theorem lex_text (r : Bs) : lex (34 :: r) = match txtLen r with | none => .bad 4 | some k => if okText (r.take k) then .tok 3 (k + 2) else .bad 4 := by unfold lex; dsimp only; rw [if_neg (by decide), if_neg (by decide), if_neg (by rintro ⟨h, _⟩; revert h; decide), if_neg (by decide), if_neg (by decide), if_pos rfl]; cases txtLen r <;> rfl
theorem lex_semi (r : Bs) : lex (59 :: r) = .tok 6 1 := by unfold lex; dsimp only; rw [if_neg (by decide), if_neg (by decide), if_neg (by rintro ⟨h, _⟩; revert h; decide), if_neg (by decide), if_neg (by decide), if_neg (by decide), if_pos rfl]
theorem lex_sign (h1 : b ≠ 10) (h2 : ¬ (b = 32 ∨ b = 9 ∨ b = 13)) (h3 : ¬ (b = 47 ∧ r.head? = some 47)) (h4 : letterB b = false) (h5 : digitB b = false) (h6 : b ≠ 34) (h7 : b ≠ 59) : lex (b :: r) = if signLen (b :: r) = 0 then .bad 2 else .tok 4 (signLen (b :: r)) := by unfold lex; dsimp only; rw [if_neg h1, if_neg h2, if_neg h3, if_neg (by rw [h4]; decide), if_neg (by rw [h5]; decide), if_neg h6, if_neg h7]
theorem step_nl (h : restOf S c.pos = 10 :: r) : stepM S c = match lineEndM c with | .ok c => .ok { c with pos := c.pos + 1, line := c.line + 1, col := 1 } | .error e => .error e := by
 unfold stepM; rw [h, lex_nl]; dsimp only; cases lineEndM c <;> rfl
theorem step_blank (h : restOf S c.pos = b :: r) (h1 : b ≠ 10) (h2 : b = 32 ∨ b = 9 ∨ b = 13) : stepM S c = .ok { c with pos := c.pos + 1, col := c.col + 1 } := by
 unfold stepM; rw [h, lex_blank r h1 h2]; rfl
theorem step_remark (h : restOf S c.pos = b :: r) (h1 : b ≠ 10) (h2 : ¬ (b = 32 ∨ b = 9 ∨ b = 13)) (h3 : b = 47 ∧ r.head? = some 47) : stepM S c = .ok { c with pos := c.pos + span_ noNl (restOf S c.pos), col := c.col + (span_ noNl (restOf S c.pos) : Nat) } := by
 unfold stepM; rw [h, lex_remark h1 h2 h3]
theorem step_name (h : restOf S c.pos = b :: r) (h1 : b ≠ 10) (h2 : ¬ (b = 32 ∨ b = 9 ∨ b = 13)) (h3 : ¬ (b = 47 ∧ r.head? = some 47)) (h4 : letterB b = true) : stepM S c = nameM S c := by
 unfold stepM nameM; rw [h, lex_name h1 h2 h3 h4]
 by_cases hh : 16 < span_ wordB (b :: r)
 ·rw [if_pos hh, if_pos hh]
 ·rw [if_neg hh, if_neg hh]
theorem step_number (h : restOf S c.pos = b :: r) (h1 : b ≠ 10) (h2 : ¬ (b = 32 ∨ b = 9 ∨ b = 13)) (h3 : ¬ (b = 47 ∧ r.head? = some 47)) (h4 : letterB b = false) (h5 : digitB b = true) : stepM S c = numberM S c := by
 unfold stepM numberM; rw [h, lex_number h1 h2 h3 h4 h5]
 by_cases hh : NumP ((b :: r).take (span_ wordB (b :: r)))
 ·rw [if_pos hh, if_pos hh]
 ·rw [if_neg hh, if_neg hh]
theorem step_text (h : restOf S c.pos = 34 :: r) (hr : r = restOf S (c.pos + 1)) : stepM S c = textM S c := by
 unfold stepM textM; rw [h, ← hr, lex_text]
 cases ht : txtLen r with
 | none => rfl
 | some k =>
  dsimp only
  cases ho : okText (r.take k) <;> rfl
theorem step_semi (h : restOf S c.pos = 59 :: r) : stepM S c = putM c 6 (S.extract c.pos (c.pos + 1)) 1 := by
 unfold stepM; rw [h, lex_semi]
theorem step_sign (h : restOf S c.pos = b :: r) (h1 : b ≠ 10) (h2 : ¬ (b = 32 ∨ b = 9 ∨ b = 13)) (h3 : ¬ (b = 47 ∧ r.head? = some 47)) (h4 : letterB b = false) (h5 : digitB b = false) (h6 : b ≠ 34) (h7 : b ≠ 59) :
  stepM S c = if signLen (restOf S c.pos) = 0 then .error (2, c.line, c.col) else putM c 4 (S.extract c.pos (c.pos + signLen (restOf S c.pos))) (signLen (restOf S c.pos)) := by
 unfold stepM; rw [h, lex_sign h1 h2 h3 h4 h5 h6 h7]
 by_cases hh : signLen (b :: r) = 0
 ·rw [if_pos hh, if_pos hh]
 ·rw [if_neg hh, if_neg hh]
theorem take2_iff (b : UInt8) (r : Bs) : ((b :: r).take 2 == [47, 47]) = true ↔ (b = 47 ∧ r.head? = some 47) := by
 cases r with
 | nil => simp
 | cons d r => simp
end
theorem has2K (s : ByteArray) (w : World) : Calls Try.prog 25 #[.string s, .string ⟨#[47, 47]⟩] w fun e w' => e = .returned (.bool (s.data.toList.take 2 == [47, 47])) ∧ Kp w w' := (has2_any s w).mono fun e w' ⟨h1, h2⟩ => ⟨h1, by rw [h2]; exact Kp.refl _⟩
theorem tok14y {W : World} {Q : Exit → Act → World → Prop} {s1 s2 s3 s4 s5 s6 s7 s8 s9 s10 s11 s12 s13 s14 s15 s16 s17 s18 s19 s20 s21 s22 s23 s24 s25 s26 s27 s28 s29 s30 s31 s32 s33 s34 s35 s36 s37 s38 s39 s40 s41 s42 s43 s44 s45 s46 s47 s48 s49 s50 s51 s52 s53 s54 s55 s56 s57 s58 s59 s60 s61 s62 s63 s64 s65 s66 s67 s68 s69 s70 s71 s72 s73 s74 s75 s76 s77 s78 s79 s80 s81 s82 s83 s84 s85 s86 s87 s88 s89 s90 s91 s92 s93 s94 s95 s96 s97 s98 s99 s100 s101 s102 s103 s104 s105 s106 s107 s108 s109 s110 s111 s112 s113 s114 s115 s116 s117 s118 s119 s120 s121 s122 s123 s124 s125 s126 s127 s128 s129 s130 s131 s132 s133 s134 s135 s136 s137 s138 s139 s140 s141 s142 s143 s144 s145 : Value} (S : ByteArray) (cb k : Nat) (b : UInt8) (hcb : cb < W.heap.size) (C0 : W.cell? ⟨cb, 0, none⟩ = some (.string S)) (C1 : W.cell? ⟨cb, 1, none⟩ = some (.int .i64 (k : Int))) (hk : k < S.size) (hb : S[k] = b) (i1 : (k : Int) < (S.size : Int)) (n10 : ((b.toNat : Int) != 10) = true)
  (hE : ∀ u, Kp W u → Q .normal { tmps := #[.pointer (some ⟨cb, 0, none⟩), s1, s2, s3, s4, s5, s6, s7, s8, s9, s10, s11, s12, s13, s14, s15, s16, s17, s18, s19, s20, s21, s22, s23, s24, s25, s26, s27, s28, s29, s30, s31, s32, s33, s34, s35, s36, s37, s38, s39, s40, s41, s42, s43, s44, s45, s46, s47, s48, s49, s50, s51, s52, s53, s54, s55, s56, s57, s58, s59, s60, s61, s62, s63, s64, s65, s66, s67, s68, s69, s70, s71, s72, s73, s74, s75, s76, s77, s78, s79, s80, s81, s82, s83, s84, s85, s86, s87, s88, s89, .pointer (some ⟨cb, 0, none⟩), .pointer (some ⟨cb, 0, none⟩), .pointer (some ⟨cb, 1, none⟩), .int .i64 (k : Int), .pointer (some ⟨cb, 0, none⟩), .pointer (some ⟨cb, 0, none⟩), .pointer (some ⟨cb, 0, none⟩), .string S, .int .i64 (S.size : Int), .bool true, .bool true, .pointer (some ⟨cb, 0, none⟩), .pointer (some ⟨cb, 0, none⟩), .pointer (some ⟨cb, 0, none⟩), .string S, .pointer (some ⟨cb, 0, none⟩), .pointer (some ⟨cb, 0, none⟩), .pointer (some ⟨cb, 1, none⟩), .int .i64 (k : Int), .int .u8 (b.toNat : Int), .bool true, .bool true, s112, s113, s114, s115, s116, s117, s118, s119, s120, s121, s122, s123, s124, s125, s126, s127, s128, s129, s130, s131, s132, s133, s134, s135, s136, s137, s138, s139, s140, s141, s142, s143, s144, s145], defers := [] } u) :
  (Code.region 14 (regArr Try.f14 14) true).wp Try.prog Q { tmps := #[.pointer (some ⟨cb, 0, none⟩), s1, s2, s3, s4, s5, s6, s7, s8, s9, s10, s11, s12, s13, s14, s15, s16, s17, s18, s19, s20, s21, s22, s23, s24, s25, s26, s27, s28, s29, s30, s31, s32, s33, s34, s35, s36, s37, s38, s39, s40, s41, s42, s43, s44, s45, s46, s47, s48, s49, s50, s51, s52, s53, s54, s55, s56, s57, s58, s59, s60, s61, s62, s63, s64, s65, s66, s67, s68, s69, s70, s71, s72, s73, s74, s75, s76, s77, s78, s79, s80, s81, s82, s83, s84, s85, s86, s87, s88, s89, s90, s91, s92, s93, s94, s95, s96, s97, s98, s99, s100, s101, s102, s103, s104, s105, s106, s107, s108, s109, s110, s111, s112, s113, s114, s115, s116, s117, s118, s119, s120, s121, s122, s123, s124, s125, s126, s127, s128, s129, s130, s131, s132, s133, s134, s135, s136, s137, s138, s139, s140, s141, s142, s143, s144, s145], defers := [] } W := by
 simp only [regArr, Try.f14, Option.map_some, Option.getD_some, regOf, if_true, if_false, List.append_nil, List.nil_append, List.toList_toArray, Nat.reduceEqDiff, reduceIte]
 refine wp_region_kp [[], [0], [1], [2], [], [4], [5], [6], [7], [3, 8], [9], [10], [10, 11], [10, 12], [10, 13], [10], [10, 15], [10, 16], [10, 17], [10, 14, 18], [10, 19], [10, 20]] (fun u => Kp W u)
  [eqV (.pointer (some ⟨cb, 0, none⟩)), eqV (.pointer (some ⟨cb, 0, none⟩)), eqV (.pointer (some ⟨cb, 1, none⟩)), eqV (.int .i64 (k : Int)), eqV (.pointer (some ⟨cb, 0, none⟩)), eqV (.pointer (some ⟨cb, 0, none⟩)), eqV (.pointer (some ⟨cb, 0, none⟩)), eqV (.string S), eqV (.int .i64 (S.size : Int)), eqV (.bool true), eqV (.bool true), eqV (.pointer (some ⟨cb, 0, none⟩)), eqV (.pointer (some ⟨cb, 0, none⟩)), eqV (.pointer (some ⟨cb, 0, none⟩)), eqV (.string S), eqV (.pointer (some ⟨cb, 0, none⟩)), eqV (.pointer (some ⟨cb, 0, none⟩)), eqV (.pointer (some ⟨cb, 1, none⟩)), eqV (.int .i64 (k : Int)), eqV (.int .u8 (b.toNat : Int)), eqV (.bool true), eqV (.bool true)]
  (by kernel_rfl) (by kernel_rfl) (by kernel_rfl) (by kernel_rfl) ((Kp.refl _).drew) (fun _ _ hk h => h.trans hk) (by repeat' first | exact trivial | refine ⟨fun _ _ _ _ h => h, ?_⟩) ⟨?sb0, ?sb1, ?sb2, ?sb3, ?sb4, ?sb5, ?sb6, ?sb7, ?sb8, ?sb9, ?sb10, ?sb11, ?sb12, ?sb13, ?sb14, ?sb15, ?sb16, ?sb17, ?sb18, ?sb19, ?sb20, ?sb21, trivial⟩ ?hEb
 case sb0 | sb4 => exact OpStepK.mv 0 (.pointer (some ⟨cb, 0, none⟩)) (by kernel_rfl) (free_ (by kernel_rfl)) (fun _ _ _ => by kernel_rfl) (fun _ => rfl)
 case sb1 => exact OpStepK.op1 90 (.pointer (some ⟨cb, 0, none⟩)) (free_ (by kernel_rfl)) (fun x _ h => Eq.trans (b := some (x 0)) (by kernel_rfl) (congrArg some h.1)) fun a u e90 hg K hK => (by go_simp; exact hK.out _ _ (Kp.refl _) rfl)
 case sb2 => exact OpStepK.op1 91 (.pointer (some ⟨cb, 0, none⟩)) (free_ (by kernel_rfl)) (fun x _ h => Eq.trans (b := some (x 1)) (by kernel_rfl) (congrArg some h.1)) fun a u e91 hg K hK => (by go_simp; exact hK.out _ _ (Kp.refl _) rfl)
 case sb3 => exact OpStepK.op1 92 (.pointer (some ⟨cb, 1, none⟩)) (free_ (by kernel_rfl)) (fun x _ h => Eq.trans (b := some (x 2)) (by kernel_rfl) (congrArg some h.1)) fun a u e92 hg K hK => (by have q0 := cell_kp hg hcb C1; go_simp; exact hK.out _ _ (Kp.refl _) rfl)
 case sb5 => exact OpStepK.op1 94 (.pointer (some ⟨cb, 0, none⟩)) (free_ (by kernel_rfl)) (fun x _ h => Eq.trans (b := some (x 4)) (by kernel_rfl) (congrArg some h.1)) fun a u e94 hg K hK => (by go_simp; exact hK.out _ _ (Kp.refl _) rfl)
 case sb6 => exact OpStepK.op1 95 (.pointer (some ⟨cb, 0, none⟩)) (free_ (by kernel_rfl)) (fun x _ h => Eq.trans (b := some (x 5)) (by kernel_rfl) (congrArg some h.1)) fun a u e95 hg K hK => (by go_simp; exact hK.out _ _ (Kp.refl _) rfl)
 case sb7 => exact OpStepK.op1 96 (.pointer (some ⟨cb, 0, none⟩)) (free_ (by kernel_rfl)) (fun x _ h => Eq.trans (b := some (x 6)) (by kernel_rfl) (congrArg some h.1)) fun a u e96 hg K hK => (by have q0 := cell_kp hg hcb C0; go_simp; exact hK.out _ _ (Kp.refl _) rfl)
 case sb8 => exact OpStepK.op1 97 (.string S) (free_ (by kernel_rfl)) (fun x _ h => Eq.trans (b := some (x 7)) (by kernel_rfl) (congrArg some h.1)) fun a u e97 hg K hK => (by go_simp; exact hK.out _ _ (Kp.refl _) rfl)
 case sb9 => exact OpStepK.op2 93 98 (.int .i64 (k : Int)) (.int .i64 (S.size : Int)) (free_ (by kernel_rfl)) (fun x _ h => Eq.trans (b := some (x 3)) (by kernel_rfl) (congrArg some h.1)) (fun x _ h => Eq.trans (b := some (x 8)) (by kernel_rfl) (congrArg some h.2.1)) fun a u e93 e98 hg K hK => (by go_simp; exact hK.out _ _ (Kp.refl _) rfl)
 case sb10 => exact OpStepK.mv 99 (.bool true) (by kernel_rfl) (free_ (by kernel_rfl)) (fun x _ h => Eq.trans (b := x 9) (by kernel_rfl) h.1) (fun _ => rfl)
 case sb11 | sb15 => exact OpStepK.mv 0 (.pointer (some ⟨cb, 0, none⟩)) (by kernel_rfl) (yes_ 10 100 true (by kernel_rfl) (by kernel_rfl) (fun x _ h => Eq.trans (b := some (x 10)) (by kernel_rfl) (congrArg some h.1))) (fun _ _ _ => by kernel_rfl) (fun _ => rfl)
 case sb12 => exact OpStepK.op1 101 (.pointer (some ⟨cb, 0, none⟩)) (yes_ 10 100 true (by kernel_rfl) (by kernel_rfl) (fun x _ h => Eq.trans (b := some (x 10)) (by kernel_rfl) (congrArg some h.1))) (fun x _ h => Eq.trans (b := some (x 11)) (by kernel_rfl) (congrArg some h.2.1)) fun a u e101 hg K hK => (by go_simp; exact hK.out _ _ (Kp.refl _) rfl)
 case sb13 => exact OpStepK.op1 102 (.pointer (some ⟨cb, 0, none⟩)) (yes_ 10 100 true (by kernel_rfl) (by kernel_rfl) (fun x _ h => Eq.trans (b := some (x 10)) (by kernel_rfl) (congrArg some h.1))) (fun x _ h => Eq.trans (b := some (x 12)) (by kernel_rfl) (congrArg some h.2.1)) fun a u e102 hg K hK => (by go_simp; exact hK.out _ _ (Kp.refl _) rfl)
 case sb14 => exact OpStepK.op1 103 (.pointer (some ⟨cb, 0, none⟩)) (yes_ 10 100 true (by kernel_rfl) (by kernel_rfl) (fun x _ h => Eq.trans (b := some (x 10)) (by kernel_rfl) (congrArg some h.1))) (fun x _ h => Eq.trans (b := some (x 13)) (by kernel_rfl) (congrArg some h.2.1)) fun a u e103 hg K hK => (by have q0 := cell_kp hg hcb C0; go_simp; exact hK.out _ _ (Kp.refl _) rfl)
 case sb16 => exact OpStepK.op1 105 (.pointer (some ⟨cb, 0, none⟩)) (yes_ 10 100 true (by kernel_rfl) (by kernel_rfl) (fun x _ h => Eq.trans (b := some (x 10)) (by kernel_rfl) (congrArg some h.1))) (fun x _ h => Eq.trans (b := some (x 15)) (by kernel_rfl) (congrArg some h.2.1)) fun a u e105 hg K hK => (by go_simp; exact hK.out _ _ (Kp.refl _) rfl)
 case sb17 => exact OpStepK.op1 106 (.pointer (some ⟨cb, 0, none⟩)) (yes_ 10 100 true (by kernel_rfl) (by kernel_rfl) (fun x _ h => Eq.trans (b := some (x 10)) (by kernel_rfl) (congrArg some h.1))) (fun x _ h => Eq.trans (b := some (x 16)) (by kernel_rfl) (congrArg some h.2.1)) fun a u e106 hg K hK => (by go_simp; exact hK.out _ _ (Kp.refl _) rfl)
 case sb18 => exact OpStepK.op1 107 (.pointer (some ⟨cb, 1, none⟩)) (yes_ 10 100 true (by kernel_rfl) (by kernel_rfl) (fun x _ h => Eq.trans (b := some (x 10)) (by kernel_rfl) (congrArg some h.1))) (fun x _ h => Eq.trans (b := some (x 17)) (by kernel_rfl) (congrArg some h.2.1)) fun a u e107 hg K hK => (by have q0 := cell_kp hg hcb C1; go_simp; exact hK.out _ _ (Kp.refl _) rfl)
 case sb19 => exact OpStepK.op2 104 108 (.string S) (.int .i64 (k : Int)) (yes_ 10 100 true (by kernel_rfl) (by kernel_rfl) (fun x _ h => Eq.trans (b := some (x 10)) (by kernel_rfl) (congrArg some h.1))) (fun x _ h => Eq.trans (b := some (x 14)) (by kernel_rfl) (congrArg some h.2.1)) (fun x _ h => Eq.trans (b := some (x 18)) (by kernel_rfl) (congrArg some h.2.2.1)) fun a u e104 e108 hg K hK => (by go_simp; exact hK.out _ _ (Kp.refl _) rfl)
 case sb20 => exact OpStepK.op1 109 (.int .u8 (b.toNat : Int)) (yes_ 10 100 true (by kernel_rfl) (by kernel_rfl) (fun x _ h => Eq.trans (b := some (x 10)) (by kernel_rfl) (congrArg some h.1))) (fun x _ h => Eq.trans (b := some (x 19)) (by kernel_rfl) (congrArg some h.2.1)) fun a u e109 hg K hK => (by go_simp; exact hK.out _ _ (Kp.refl _) rfl)
 case sb21 => exact OpStepK.op2 100 110 (.bool true) (.bool true) (free_ (by kernel_rfl)) (fun x _ h => Eq.trans (b := some (x 10)) (by kernel_rfl) (congrArg some h.1)) (fun x _ h => Eq.trans (b := some (x 20)) (by kernel_rfl) (congrArg some h.2.1)) fun a u e100 e110 hg K hK => (by go_simp; exact hK.out _ _ (Kp.refl _) rfl)
 intro x u hg he
 obtain ⟨d0, d1, d2, d3, d4, d5, d6, d7, d8, d9, d10, d11, d12, d13, d14, d15, d16, d17, d18, d19, d20, d21, -⟩ := he
 refine ⟨?_⟩
 simp only [putsFrom, Act.put, List.setIfInBounds_toArray, List.set_cons_zero, List.set_cons_succ, Nat.reduceAdd, d0, d1, d2, d3, d4, d5, d6, d7, d8, d9, d10, d11, d12, d13, d14, d15, d16, d17, d18, d19, d20, d21]
 clear d0 d1 d2 d3 d4 d5 d6 d7 d8 d9 d10 d11 d12 d13 d14 d15 d16 d17 d18 d19 d20 d21
 exact hE _ hg
theorem tok14b {W : World} {Q : Exit → Act → World → Prop} {s1 s2 s3 s4 s5 s6 s7 s8 s9 s10 s11 s12 s13 s14 s15 s16 s17 s18 s19 s20 s21 s22 s23 s24 s25 s26 s27 s28 s29 s30 s31 s32 s33 s34 s35 s36 s37 s38 s39 s40 s41 s42 s43 s44 s45 s46 s47 s48 s49 s50 s51 s52 s53 s54 s55 s56 s57 s58 s59 s60 s61 s62 s63 s64 s65 s66 s67 s68 s69 s70 s71 s72 s73 s74 s75 s76 s77 s78 s79 s80 s81 s82 s83 s84 s85 s86 s87 s88 s89 s90 s91 s92 s93 s94 s95 s96 s97 s98 s99 s100 s101 s102 s103 s104 s105 s106 s107 s108 s109 s110 s111 s112 s113 s114 s115 s116 s117 s118 s119 s120 s121 s122 s123 s124 s125 s126 s127 s128 s129 s130 s131 s132 s133 s134 s135 s136 s137 s138 s139 s140 s141 s142 s143 s144 s145 : Value} (S : ByteArray) (cb k : Nat) (b : UInt8) (hcb : cb < W.heap.size) (C0 : W.cell? ⟨cb, 0, none⟩ = some (.string S)) (C1 : W.cell? ⟨cb, 1, none⟩ = some (.int .i64 (k : Int))) (hk : k < S.size) (hb : S[k] = b) (i1 : (k : Int) < (S.size : Int)) (n10 : ((b.toNat : Int) != 10) = false)
  (hE : ∀ u, Kp W u → Q .normal { tmps := #[.pointer (some ⟨cb, 0, none⟩), s1, s2, s3, s4, s5, s6, s7, s8, s9, s10, s11, s12, s13, s14, s15, s16, s17, s18, s19, s20, s21, s22, s23, s24, s25, s26, s27, s28, s29, s30, s31, s32, s33, s34, s35, s36, s37, s38, s39, s40, s41, s42, s43, s44, s45, s46, s47, s48, s49, s50, s51, s52, s53, s54, s55, s56, s57, s58, s59, s60, s61, s62, s63, s64, s65, s66, s67, s68, s69, s70, s71, s72, s73, s74, s75, s76, s77, s78, s79, s80, s81, s82, s83, s84, s85, s86, s87, s88, s89, .pointer (some ⟨cb, 0, none⟩), .pointer (some ⟨cb, 0, none⟩), .pointer (some ⟨cb, 1, none⟩), .int .i64 (k : Int), .pointer (some ⟨cb, 0, none⟩), .pointer (some ⟨cb, 0, none⟩), .pointer (some ⟨cb, 0, none⟩), .string S, .int .i64 (S.size : Int), .bool true, .bool true, .pointer (some ⟨cb, 0, none⟩), .pointer (some ⟨cb, 0, none⟩), .pointer (some ⟨cb, 0, none⟩), .string S, .pointer (some ⟨cb, 0, none⟩), .pointer (some ⟨cb, 0, none⟩), .pointer (some ⟨cb, 1, none⟩), .int .i64 (k : Int), .int .u8 (b.toNat : Int), .bool false, .bool false, s112, s113, s114, s115, s116, s117, s118, s119, s120, s121, s122, s123, s124, s125, s126, s127, s128, s129, s130, s131, s132, s133, s134, s135, s136, s137, s138, s139, s140, s141, s142, s143, s144, s145], defers := [] } u) :
  (Code.region 14 (regArr Try.f14 14) true).wp Try.prog Q { tmps := #[.pointer (some ⟨cb, 0, none⟩), s1, s2, s3, s4, s5, s6, s7, s8, s9, s10, s11, s12, s13, s14, s15, s16, s17, s18, s19, s20, s21, s22, s23, s24, s25, s26, s27, s28, s29, s30, s31, s32, s33, s34, s35, s36, s37, s38, s39, s40, s41, s42, s43, s44, s45, s46, s47, s48, s49, s50, s51, s52, s53, s54, s55, s56, s57, s58, s59, s60, s61, s62, s63, s64, s65, s66, s67, s68, s69, s70, s71, s72, s73, s74, s75, s76, s77, s78, s79, s80, s81, s82, s83, s84, s85, s86, s87, s88, s89, s90, s91, s92, s93, s94, s95, s96, s97, s98, s99, s100, s101, s102, s103, s104, s105, s106, s107, s108, s109, s110, s111, s112, s113, s114, s115, s116, s117, s118, s119, s120, s121, s122, s123, s124, s125, s126, s127, s128, s129, s130, s131, s132, s133, s134, s135, s136, s137, s138, s139, s140, s141, s142, s143, s144, s145], defers := [] } W := by
 simp only [regArr, Try.f14, Option.map_some, Option.getD_some, regOf, if_true, if_false, List.append_nil, List.nil_append, List.toList_toArray, Nat.reduceEqDiff, reduceIte]
 refine wp_region_kp [[], [0], [1], [2], [], [4], [5], [6], [7], [3, 8], [9], [10], [10, 11], [10, 12], [10, 13], [10], [10, 15], [10, 16], [10, 17], [10, 14, 18], [10, 19], [10, 20]] (fun u => Kp W u)
  [eqV (.pointer (some ⟨cb, 0, none⟩)), eqV (.pointer (some ⟨cb, 0, none⟩)), eqV (.pointer (some ⟨cb, 1, none⟩)), eqV (.int .i64 (k : Int)), eqV (.pointer (some ⟨cb, 0, none⟩)), eqV (.pointer (some ⟨cb, 0, none⟩)), eqV (.pointer (some ⟨cb, 0, none⟩)), eqV (.string S), eqV (.int .i64 (S.size : Int)), eqV (.bool true), eqV (.bool true), eqV (.pointer (some ⟨cb, 0, none⟩)), eqV (.pointer (some ⟨cb, 0, none⟩)), eqV (.pointer (some ⟨cb, 0, none⟩)), eqV (.string S), eqV (.pointer (some ⟨cb, 0, none⟩)), eqV (.pointer (some ⟨cb, 0, none⟩)), eqV (.pointer (some ⟨cb, 1, none⟩)), eqV (.int .i64 (k : Int)), eqV (.int .u8 (b.toNat : Int)), eqV (.bool false), eqV (.bool false)]
  (by kernel_rfl) (by kernel_rfl) (by kernel_rfl) (by kernel_rfl) ((Kp.refl _).drew) (fun _ _ hk h => h.trans hk) (by repeat' first | exact trivial | refine ⟨fun _ _ _ _ h => h, ?_⟩) ⟨?sc0, ?sc1, ?sc2, ?sc3, ?sc4, ?sc5, ?sc6, ?sc7, ?sc8, ?sc9, ?sc10, ?sc11, ?sc12, ?sc13, ?sc14, ?sc15, ?sc16, ?sc17, ?sc18, ?sc19, ?sc20, ?sc21, trivial⟩ ?hEc
 case sc0 | sc4 => exact OpStepK.mv 0 (.pointer (some ⟨cb, 0, none⟩)) (by kernel_rfl) (free_ (by kernel_rfl)) (fun _ _ _ => by kernel_rfl) (fun _ => rfl)
 case sc1 => exact OpStepK.op1 90 (.pointer (some ⟨cb, 0, none⟩)) (free_ (by kernel_rfl)) (fun x _ h => Eq.trans (b := some (x 0)) (by kernel_rfl) (congrArg some h.1)) fun a u e90 hg K hK => (by go_simp; exact hK.out _ _ (Kp.refl _) rfl)
 case sc2 => exact OpStepK.op1 91 (.pointer (some ⟨cb, 0, none⟩)) (free_ (by kernel_rfl)) (fun x _ h => Eq.trans (b := some (x 1)) (by kernel_rfl) (congrArg some h.1)) fun a u e91 hg K hK => (by go_simp; exact hK.out _ _ (Kp.refl _) rfl)
 case sc3 => exact OpStepK.op1 92 (.pointer (some ⟨cb, 1, none⟩)) (free_ (by kernel_rfl)) (fun x _ h => Eq.trans (b := some (x 2)) (by kernel_rfl) (congrArg some h.1)) fun a u e92 hg K hK => (by have q0 := cell_kp hg hcb C1; go_simp; exact hK.out _ _ (Kp.refl _) rfl)
 case sc5 => exact OpStepK.op1 94 (.pointer (some ⟨cb, 0, none⟩)) (free_ (by kernel_rfl)) (fun x _ h => Eq.trans (b := some (x 4)) (by kernel_rfl) (congrArg some h.1)) fun a u e94 hg K hK => (by go_simp; exact hK.out _ _ (Kp.refl _) rfl)
 case sc6 => exact OpStepK.op1 95 (.pointer (some ⟨cb, 0, none⟩)) (free_ (by kernel_rfl)) (fun x _ h => Eq.trans (b := some (x 5)) (by kernel_rfl) (congrArg some h.1)) fun a u e95 hg K hK => (by go_simp; exact hK.out _ _ (Kp.refl _) rfl)
 case sc7 => exact OpStepK.op1 96 (.pointer (some ⟨cb, 0, none⟩)) (free_ (by kernel_rfl)) (fun x _ h => Eq.trans (b := some (x 6)) (by kernel_rfl) (congrArg some h.1)) fun a u e96 hg K hK => (by have q0 := cell_kp hg hcb C0; go_simp; exact hK.out _ _ (Kp.refl _) rfl)
 case sc8 => exact OpStepK.op1 97 (.string S) (free_ (by kernel_rfl)) (fun x _ h => Eq.trans (b := some (x 7)) (by kernel_rfl) (congrArg some h.1)) fun a u e97 hg K hK => (by go_simp; exact hK.out _ _ (Kp.refl _) rfl)
 case sc9 => exact OpStepK.op2 93 98 (.int .i64 (k : Int)) (.int .i64 (S.size : Int)) (free_ (by kernel_rfl)) (fun x _ h => Eq.trans (b := some (x 3)) (by kernel_rfl) (congrArg some h.1)) (fun x _ h => Eq.trans (b := some (x 8)) (by kernel_rfl) (congrArg some h.2.1)) fun a u e93 e98 hg K hK => (by go_simp; exact hK.out _ _ (Kp.refl _) rfl)
 case sc10 => exact OpStepK.mv 99 (.bool true) (by kernel_rfl) (free_ (by kernel_rfl)) (fun x _ h => Eq.trans (b := x 9) (by kernel_rfl) h.1) (fun _ => rfl)
 case sc11 | sc15 => exact OpStepK.mv 0 (.pointer (some ⟨cb, 0, none⟩)) (by kernel_rfl) (yes_ 10 100 true (by kernel_rfl) (by kernel_rfl) (fun x _ h => Eq.trans (b := some (x 10)) (by kernel_rfl) (congrArg some h.1))) (fun _ _ _ => by kernel_rfl) (fun _ => rfl)
 case sc12 => exact OpStepK.op1 101 (.pointer (some ⟨cb, 0, none⟩)) (yes_ 10 100 true (by kernel_rfl) (by kernel_rfl) (fun x _ h => Eq.trans (b := some (x 10)) (by kernel_rfl) (congrArg some h.1))) (fun x _ h => Eq.trans (b := some (x 11)) (by kernel_rfl) (congrArg some h.2.1)) fun a u e101 hg K hK => (by go_simp; exact hK.out _ _ (Kp.refl _) rfl)
 case sc13 => exact OpStepK.op1 102 (.pointer (some ⟨cb, 0, none⟩)) (yes_ 10 100 true (by kernel_rfl) (by kernel_rfl) (fun x _ h => Eq.trans (b := some (x 10)) (by kernel_rfl) (congrArg some h.1))) (fun x _ h => Eq.trans (b := some (x 12)) (by kernel_rfl) (congrArg some h.2.1)) fun a u e102 hg K hK => (by go_simp; exact hK.out _ _ (Kp.refl _) rfl)
 case sc14 => exact OpStepK.op1 103 (.pointer (some ⟨cb, 0, none⟩)) (yes_ 10 100 true (by kernel_rfl) (by kernel_rfl) (fun x _ h => Eq.trans (b := some (x 10)) (by kernel_rfl) (congrArg some h.1))) (fun x _ h => Eq.trans (b := some (x 13)) (by kernel_rfl) (congrArg some h.2.1)) fun a u e103 hg K hK => (by have q0 := cell_kp hg hcb C0; go_simp; exact hK.out _ _ (Kp.refl _) rfl)
 case sc16 => exact OpStepK.op1 105 (.pointer (some ⟨cb, 0, none⟩)) (yes_ 10 100 true (by kernel_rfl) (by kernel_rfl) (fun x _ h => Eq.trans (b := some (x 10)) (by kernel_rfl) (congrArg some h.1))) (fun x _ h => Eq.trans (b := some (x 15)) (by kernel_rfl) (congrArg some h.2.1)) fun a u e105 hg K hK => (by go_simp; exact hK.out _ _ (Kp.refl _) rfl)
 case sc17 => exact OpStepK.op1 106 (.pointer (some ⟨cb, 0, none⟩)) (yes_ 10 100 true (by kernel_rfl) (by kernel_rfl) (fun x _ h => Eq.trans (b := some (x 10)) (by kernel_rfl) (congrArg some h.1))) (fun x _ h => Eq.trans (b := some (x 16)) (by kernel_rfl) (congrArg some h.2.1)) fun a u e106 hg K hK => (by go_simp; exact hK.out _ _ (Kp.refl _) rfl)
 case sc18 => exact OpStepK.op1 107 (.pointer (some ⟨cb, 1, none⟩)) (yes_ 10 100 true (by kernel_rfl) (by kernel_rfl) (fun x _ h => Eq.trans (b := some (x 10)) (by kernel_rfl) (congrArg some h.1))) (fun x _ h => Eq.trans (b := some (x 17)) (by kernel_rfl) (congrArg some h.2.1)) fun a u e107 hg K hK => (by have q0 := cell_kp hg hcb C1; go_simp; exact hK.out _ _ (Kp.refl _) rfl)
 case sc19 => exact OpStepK.op2 104 108 (.string S) (.int .i64 (k : Int)) (yes_ 10 100 true (by kernel_rfl) (by kernel_rfl) (fun x _ h => Eq.trans (b := some (x 10)) (by kernel_rfl) (congrArg some h.1))) (fun x _ h => Eq.trans (b := some (x 14)) (by kernel_rfl) (congrArg some h.2.1)) (fun x _ h => Eq.trans (b := some (x 18)) (by kernel_rfl) (congrArg some h.2.2.1)) fun a u e104 e108 hg K hK => (by go_simp; exact hK.out _ _ (Kp.refl _) rfl)
 case sc20 => exact OpStepK.op1 109 (.int .u8 (b.toNat : Int)) (yes_ 10 100 true (by kernel_rfl) (by kernel_rfl) (fun x _ h => Eq.trans (b := some (x 10)) (by kernel_rfl) (congrArg some h.1))) (fun x _ h => Eq.trans (b := some (x 19)) (by kernel_rfl) (congrArg some h.2.1)) fun a u e109 hg K hK => (by go_simp; exact hK.out _ _ (Kp.refl _) rfl)
 case sc21 => exact OpStepK.op2 100 110 (.bool true) (.bool false) (free_ (by kernel_rfl)) (fun x _ h => Eq.trans (b := some (x 10)) (by kernel_rfl) (congrArg some h.1)) (fun x _ h => Eq.trans (b := some (x 20)) (by kernel_rfl) (congrArg some h.2.1)) fun a u e100 e110 hg K hK => (by go_simp; exact hK.out _ _ (Kp.refl _) rfl)
 intro x u hg he
 obtain ⟨d0, d1, d2, d3, d4, d5, d6, d7, d8, d9, d10, d11, d12, d13, d14, d15, d16, d17, d18, d19, d20, d21, -⟩ := he
 refine ⟨?_⟩
 simp only [putsFrom, Act.put, List.setIfInBounds_toArray, List.set_cons_zero, List.set_cons_succ, Nat.reduceAdd, d0, d1, d2, d3, d4, d5, d6, d7, d8, d9, d10, d11, d12, d13, d14, d15, d16, d17, d18, d19, d20, d21]
 clear d0 d1 d2 d3 d4 d5 d6 d7 d8 d9 d10 d11 d12 d13 d14 d15 d16 d17 d18 d19 d20 d21
 exact hE _ hg
theorem tok14e {W : World} {Q : Exit → Act → World → Prop} {s1 s2 s3 s4 s5 s6 s7 s8 s9 s10 s11 s12 s13 s14 s15 s16 s17 s18 s19 s20 s21 s22 s23 s24 s25 s26 s27 s28 s29 s30 s31 s32 s33 s34 s35 s36 s37 s38 s39 s40 s41 s42 s43 s44 s45 s46 s47 s48 s49 s50 s51 s52 s53 s54 s55 s56 s57 s58 s59 s60 s61 s62 s63 s64 s65 s66 s67 s68 s69 s70 s71 s72 s73 s74 s75 s76 s77 s78 s79 s80 s81 s82 s83 s84 s85 s86 s87 s88 s89 s90 s91 s92 s93 s94 s95 s96 s97 s98 s99 s100 s101 s102 s103 s104 s105 s106 s107 s108 s109 s110 s111 s112 s113 s114 s115 s116 s117 s118 s119 s120 s121 s122 s123 s124 s125 s126 s127 s128 s129 s130 s131 s132 s133 s134 s135 s136 s137 s138 s139 s140 s141 s142 s143 s144 s145 : Value} (S : ByteArray) (cb k : Nat) (hcb : cb < W.heap.size) (C0 : W.cell? ⟨cb, 0, none⟩ = some (.string S)) (C1 : W.cell? ⟨cb, 1, none⟩ = some (.int .i64 (k : Int))) (i1 : ¬ (k : Int) < (S.size : Int))
  (hE : ∀ u, Kp W u → Q .normal { tmps := #[.pointer (some ⟨cb, 0, none⟩), s1, s2, s3, s4, s5, s6, s7, s8, s9, s10, s11, s12, s13, s14, s15, s16, s17, s18, s19, s20, s21, s22, s23, s24, s25, s26, s27, s28, s29, s30, s31, s32, s33, s34, s35, s36, s37, s38, s39, s40, s41, s42, s43, s44, s45, s46, s47, s48, s49, s50, s51, s52, s53, s54, s55, s56, s57, s58, s59, s60, s61, s62, s63, s64, s65, s66, s67, s68, s69, s70, s71, s72, s73, s74, s75, s76, s77, s78, s79, s80, s81, s82, s83, s84, s85, s86, s87, s88, s89, .pointer (some ⟨cb, 0, none⟩), .pointer (some ⟨cb, 0, none⟩), .pointer (some ⟨cb, 1, none⟩), .int .i64 (k : Int), .pointer (some ⟨cb, 0, none⟩), .pointer (some ⟨cb, 0, none⟩), .pointer (some ⟨cb, 0, none⟩), .string S, .int .i64 (S.size : Int), .bool false, .bool false, undef, undef, undef, undef, undef, undef, undef, undef, undef, undef, .bool false, s112, s113, s114, s115, s116, s117, s118, s119, s120, s121, s122, s123, s124, s125, s126, s127, s128, s129, s130, s131, s132, s133, s134, s135, s136, s137, s138, s139, s140, s141, s142, s143, s144, s145], defers := [] } u) :
  (Code.region 14 (regArr Try.f14 14) true).wp Try.prog Q { tmps := #[.pointer (some ⟨cb, 0, none⟩), s1, s2, s3, s4, s5, s6, s7, s8, s9, s10, s11, s12, s13, s14, s15, s16, s17, s18, s19, s20, s21, s22, s23, s24, s25, s26, s27, s28, s29, s30, s31, s32, s33, s34, s35, s36, s37, s38, s39, s40, s41, s42, s43, s44, s45, s46, s47, s48, s49, s50, s51, s52, s53, s54, s55, s56, s57, s58, s59, s60, s61, s62, s63, s64, s65, s66, s67, s68, s69, s70, s71, s72, s73, s74, s75, s76, s77, s78, s79, s80, s81, s82, s83, s84, s85, s86, s87, s88, s89, s90, s91, s92, s93, s94, s95, s96, s97, s98, s99, s100, s101, s102, s103, s104, s105, s106, s107, s108, s109, s110, s111, s112, s113, s114, s115, s116, s117, s118, s119, s120, s121, s122, s123, s124, s125, s126, s127, s128, s129, s130, s131, s132, s133, s134, s135, s136, s137, s138, s139, s140, s141, s142, s143, s144, s145], defers := [] } W := by
 simp only [regArr, Try.f14, Option.map_some, Option.getD_some, regOf, if_true, if_false, List.append_nil, List.nil_append, List.toList_toArray, Nat.reduceEqDiff, reduceIte]
 refine wp_region_kp [[], [0], [1], [2], [], [4], [5], [6], [7], [3, 8], [9], [10], [10, 11], [10, 12], [10, 13], [10], [10, 15], [10, 16], [10, 17], [10, 14, 18], [10, 19], [10, 20]] (fun u => Kp W u)
  [eqV (.pointer (some ⟨cb, 0, none⟩)), eqV (.pointer (some ⟨cb, 0, none⟩)), eqV (.pointer (some ⟨cb, 1, none⟩)), eqV (.int .i64 (k : Int)), eqV (.pointer (some ⟨cb, 0, none⟩)), eqV (.pointer (some ⟨cb, 0, none⟩)), eqV (.pointer (some ⟨cb, 0, none⟩)), eqV (.string S), eqV (.int .i64 (S.size : Int)), eqV (.bool false), eqV (.bool false), eqV (undef), eqV (undef), eqV (undef), eqV (undef), eqV (undef), eqV (undef), eqV (undef), eqV (undef), eqV (undef), eqV (undef), eqV (.bool false)]
  (by kernel_rfl) (by kernel_rfl) (by kernel_rfl) (by kernel_rfl) ((Kp.refl _).drew) (fun _ _ hk h => h.trans hk) (by repeat' first | exact trivial | refine ⟨fun _ _ _ _ h => h, ?_⟩) ⟨?sd0, ?sd1, ?sd2, ?sd3, ?sd4, ?sd5, ?sd6, ?sd7, ?sd8, ?sd9, ?sd10, ?sd11, ?sd12, ?sd13, ?sd14, ?sd15, ?sd16, ?sd17, ?sd18, ?sd19, ?sd20, ?sd21, trivial⟩ ?hEd
 case sd0 | sd4 => exact OpStepK.mv 0 (.pointer (some ⟨cb, 0, none⟩)) (by kernel_rfl) (free_ (by kernel_rfl)) (fun _ _ _ => by kernel_rfl) (fun _ => rfl)
 case sd1 => exact OpStepK.op1 90 (.pointer (some ⟨cb, 0, none⟩)) (free_ (by kernel_rfl)) (fun x _ h => Eq.trans (b := some (x 0)) (by kernel_rfl) (congrArg some h.1)) fun a u e90 hg K hK => (by go_simp; exact hK.out _ _ (Kp.refl _) rfl)
 case sd2 => exact OpStepK.op1 91 (.pointer (some ⟨cb, 0, none⟩)) (free_ (by kernel_rfl)) (fun x _ h => Eq.trans (b := some (x 1)) (by kernel_rfl) (congrArg some h.1)) fun a u e91 hg K hK => (by go_simp; exact hK.out _ _ (Kp.refl _) rfl)
 case sd3 => exact OpStepK.op1 92 (.pointer (some ⟨cb, 1, none⟩)) (free_ (by kernel_rfl)) (fun x _ h => Eq.trans (b := some (x 2)) (by kernel_rfl) (congrArg some h.1)) fun a u e92 hg K hK => (by have q0 := cell_kp hg hcb C1; go_simp; exact hK.out _ _ (Kp.refl _) rfl)
 case sd5 => exact OpStepK.op1 94 (.pointer (some ⟨cb, 0, none⟩)) (free_ (by kernel_rfl)) (fun x _ h => Eq.trans (b := some (x 4)) (by kernel_rfl) (congrArg some h.1)) fun a u e94 hg K hK => (by go_simp; exact hK.out _ _ (Kp.refl _) rfl)
 case sd6 => exact OpStepK.op1 95 (.pointer (some ⟨cb, 0, none⟩)) (free_ (by kernel_rfl)) (fun x _ h => Eq.trans (b := some (x 5)) (by kernel_rfl) (congrArg some h.1)) fun a u e95 hg K hK => (by go_simp; exact hK.out _ _ (Kp.refl _) rfl)
 case sd7 => exact OpStepK.op1 96 (.pointer (some ⟨cb, 0, none⟩)) (free_ (by kernel_rfl)) (fun x _ h => Eq.trans (b := some (x 6)) (by kernel_rfl) (congrArg some h.1)) fun a u e96 hg K hK => (by have q0 := cell_kp hg hcb C0; go_simp; exact hK.out _ _ (Kp.refl _) rfl)
 case sd8 => exact OpStepK.op1 97 (.string S) (free_ (by kernel_rfl)) (fun x _ h => Eq.trans (b := some (x 7)) (by kernel_rfl) (congrArg some h.1)) fun a u e97 hg K hK => (by go_simp; exact hK.out _ _ (Kp.refl _) rfl)
 case sd9 => exact OpStepK.op2 93 98 (.int .i64 (k : Int)) (.int .i64 (S.size : Int)) (free_ (by kernel_rfl)) (fun x _ h => Eq.trans (b := some (x 3)) (by kernel_rfl) (congrArg some h.1)) (fun x _ h => Eq.trans (b := some (x 8)) (by kernel_rfl) (congrArg some h.2.1)) fun a u e93 e98 hg K hK => (by go_simp; exact hK.out _ _ (Kp.refl _) rfl)
 case sd10 => exact OpStepK.mv 99 (.bool false) (by kernel_rfl) (free_ (by kernel_rfl)) (fun x _ h => Eq.trans (b := x 9) (by kernel_rfl) h.1) (fun _ => rfl)
 case sd11 | sd12 | sd13 | sd14 | sd15 | sd16 | sd17 | sd18 | sd19 | sd20 => exact OpStepK.no 10 100 true false (by kernel_rfl) (by kernel_rfl) (by decide) (fun x _ h => Eq.trans (b := some (x 10)) (by kernel_rfl) (congrArg some h.1)) (fun _ => rfl)
 case sd21 => exact OpStepK.op2 100 110 (.bool false) (undef) (free_ (by kernel_rfl)) (fun x _ h => Eq.trans (b := some (x 10)) (by kernel_rfl) (congrArg some h.1)) (fun x _ h => Eq.trans (b := some (x 20)) (by kernel_rfl) (congrArg some h.2.1)) fun a u e100 e110 hg K hK => (by go_simp; exact hK.out _ _ (Kp.refl _) rfl)
 intro x u hg he
 obtain ⟨d0, d1, d2, d3, d4, d5, d6, d7, d8, d9, d10, d11, d12, d13, d14, d15, d16, d17, d18, d19, d20, d21, -⟩ := he
 refine ⟨?_⟩
 simp only [putsFrom, Act.put, List.setIfInBounds_toArray, List.set_cons_zero, List.set_cons_succ, Nat.reduceAdd, d0, d1, d2, d3, d4, d5, d6, d7, d8, d9, d10, d11, d12, d13, d14, d15, d16, d17, d18, d19, d20, d21]
 clear d0 d1 d2 d3 d4 d5 d6 d7 d8 d9 d10 d11 d12 d13 d14 d15 d16 d17 d18 d19 d20 d21
 exact hE _ hg
def posOf (w : World) (cb : Nat) : Nat := (intOf ((w.cell? ⟨cb, 1, none⟩).getD undef)).toNat
theorem Cut.posOf {w : World} {cb : Nat} {S : ByteArray} {c : CutM} {ov : Value} (h : Cut w cb S c ov) : posOf w cb = c.pos := by
 unfold Go.Proofs.Ytcjgagmcnmmfoaa.posOf; rw [h.c1]; simp [intOf]
theorem token_any (w : World) (cb : Nat) (S : ByteArray) (c : CutM) (h : CutS w cb S c) (hpl : c.pos < S.size) : Calls Try.prog 14 #[.pointer (some ⟨cb, 0, none⟩)] w (CutP w cb S (stepM S c)) := by
 have HC := hid h
 obtain ⟨⟨ov, h⟩, bd⟩ := h
 have H := hid h; have BD := hid bd
 have c0 := h.c0; have c1 := h.c1
 have hlt := h.lt
 obtain ⟨b, hb⟩ : ∃ b, S[c.pos] = b := ⟨_, rfl⟩
 have hrest : restOf S c.pos = b :: restOf S (c.pos + 1) := by rw [← hb]; exact rest_cons hpl

 have HRS := hid hrest; have HPL := hid hpl
 have i1 : (c.pos : Int) < (S.size : Int) := by omega
 have b10 := byte_beq b 10 (by decide)
 have b32 := byte_beq b 32 (by decide)
 have b9 := byte_beq b 9 (by decide)
 have b13 := byte_beq b 13 (by decide)
 have b34 := byte_beq b 34 (by decide)
 have b59 := byte_beq b 59 (by decide)
 have HSB := hid (fun c' (h2 : stepM S c = .ok c') => (bd.step hpl h2).1)
 by_cases e10 : b = 10
 ·subst e10
  have HST := hid (step_nl hrest)
  have t10 : (((10 : UInt8).toNat : Int) == 10) = true := rfl
  clear hrest b10 b32 b9 b13 b34 b59 h
  cases hq : lineEndM c with
  | error er =>
   have HQ := hid hq
   have HN := hid (show stepM S c = .error er by rw [HST.out, hq])
   clear hq bd
   go_enter Try.func14, Try.ntmps14
   go_wp2_with fail
   go_quiet (fail)
   go_wp2_with (go_at_call 15; go_must (refine (lineEnd_any _ cb S c (HC.out.kp ((Kp.refl w).drewN _))).mono ?_); intro e w1 hp; obtain ⟨he, hb2⟩ := CutP.of_err hp HQ.out; unfold stopE at he; subst he; clear hp)
   exact ⟨rfl, .inr ⟨_, HN.out, rfl⟩, Below.trans (Below.mono ((Kp.refl w).drewN _) (Nat.le_of_lt HC.out.lt)) hb2⟩
  | ok c2 =>
   have HQ := hid hq
   obtain ⟨bd2, hpos⟩ := bd.lineEnd hq
   have HN := hid (show stepM S c = .ok { c2 with pos := c2.pos + 1, line := c2.line + 1, col := 1 } by rw [HST.out, hq])
   obtain ⟨p1, hp1⟩ : ∃ p1, c2.pos + 1 = p1 := ⟨_, rfl⟩
   obtain ⟨l1, hl1⟩ : ∃ l1, c2.line + 1 = l1 := ⟨_, rfl⟩
   have j1 : IntKind.i64.wrap ((c2.pos : Int) + 1) = (p1 : Int) := by rw [IntKind.wrap_i64]; have := bd2.size; have := bd2.pos; omega
   have j2 : IntKind.i64.wrap (c2.line + 1) = l1 := by rw [IntKind.wrap_i64]; have := bd2.size; have := bd2.pos; have := bd2.l1; have := bd2.l2; omega
   rw [hp1, hl1] at HN
   clear hq bd hpos hp1 hl1 bd2
   go_enter Try.func14, Try.ntmps14
   go_wp2_with fail
   go_quiet (fail)
   clear c0 c1
   go_wp2_with (go_at_call 15; go_must (refine (lineEnd_any _ cb S c (HC.out.kp ((Kp.refl w).drewN _))).mono ?_); intro e w1 hp; obtain ⟨he, ⟨⟨ov2, hcu⟩, hx2⟩, hb2⟩ := CutP.of_ok hp HQ.out; subst he; have HCU := hid hcu; have HBW := hid hb2; have q1 := hcu.c1; have q2 := hcu.c2; have q3 := hcu.c3; have f1 := hcu.fz 1; have f2 := hcu.fz 2; have f3 := hcu.fz 3; clear hp hcu hb2 hx2)
   first | go_end0 | refine bodyPost_ret (results_none rfl _ _ _) rfl ?_
   exact ⟨.inl ⟨_, HN.out, rfl, ⟨_, ((HCU.out.at_pos p1).at_line l1).at_col 1⟩, HSB.out _ HN.out⟩, Below.trans (Below.mono ((Kp.refl w).drewN _) (Nat.le_of_lt HC.out.lt)) (((HBW.out.setCell (Nat.le_refl _) _).setCell (Nat.le_refl _) _).setCell (Nat.le_refl _) _)⟩
 have t10 : ((b.toNat : Int) == 10) = false := b10.trans (beq_eq_false_iff_ne.2 e10)
 by_cases ebl : b = 32 ∨ b = 9 ∨ b = 13
 ·have HN := hid (step_blank hrest e10 ebl)
  obtain ⟨p1, hp1⟩ : ∃ p1, c.pos + 1 = p1 := ⟨_, rfl⟩
  obtain ⟨l1, hl1⟩ : ∃ l1, c.col + 1 = l1 := ⟨_, rfl⟩
  have j1 : IntKind.i64.wrap ((c.pos : Int) + 1) = (p1 : Int) := by rw [IntKind.wrap_i64]; have := bd.size; omega
  have j2 : IntKind.i64.wrap (c.col + 1) = l1 := by rw [IntKind.wrap_i64]; have := bd.size; have := bd.pos; have := bd.c1; have := bd.c2; omega
  rw [hp1, hl1] at HN
  have c3 := h.c3; have f1 := h.fz 1; have f3 := h.fz 3
  clear h bd hrest hp1 hl1 b10 b32 b9 b13 b34 b59 t10 e10
  rcases ebl with rfl | rfl | rfl
  all_goals
   go_enter Try.func14, Try.ntmps14
   go_wp2_with fail
   go_quiet (fail)
   go_wp2
   first | go_end0 | refine bodyPost_ret (results_none rfl _ _ _) rfl ?_
   exact ⟨.inl ⟨_, HN.out, rfl, ⟨_, ((H.out.kp ((Kp.refl w).drewN _)).at_pos p1).at_col l1⟩, HSB.out _ HN.out⟩, ((Below.mono ((Kp.refl w).drewN _) (Nat.le_of_lt HC.out.lt)).setCell (Nat.le_refl _) _).setCell (Nat.le_refl _) _⟩
 have t32 : ((b.toNat : Int) == 32) = false := b32.trans (beq_eq_false_iff_ne.2 fun e => ebl (.inl e))
 have t9 : ((b.toNat : Int) == 9) = false := b9.trans (beq_eq_false_iff_ne.2 fun e => ebl (.inr (.inl e)))
 have t13 : ((b.toNat : Int) == 13) = false := b13.trans (beq_eq_false_iff_ne.2 fun e => ebl (.inr (.inr e)))
 obtain ⟨rs, hrs⟩ : ∃ rs, S.extract c.pos S.size = rs := ⟨_, rfl⟩
 have hrl : rs.data.toList = restOf S c.pos := by
  rw [← hrs]
  have e := ext_rest S c.pos (S.size - c.pos)
  rw [show c.pos + (S.size - c.pos) = S.size by omega, List.take_of_length_le (by rw [rest_len]; omega)] at e
  exact e
 have hrz : rs.size = S.size - c.pos := by rw [← hrs]; exact ext_size (Nat.le_of_lt hpl) (Nat.le_refl _)
 obtain ⟨pf, hx⟩ : ∃ pf, (rs.data.toList.take 2 == [47, 47]) = pf := ⟨_, rfl⟩
 have HX := hid hx
 have HRL := hid hrl
 have HRZ := hid hrz
 have hx2 : pf = true ↔ (b = 47 ∧ (restOf S (c.pos + 1)).head? = some 47) := by rw [← hx, hrl, hrest]; exact take2_iff _ _
 have HX2 := hid hx2
 have HE := hid e10; have HEB := hid ebl
 have j1 : (0 : Int) ≤ (c.pos : Int) := by omega
 have j2 : (c.pos : Int) ≤ (S.size : Int) := by omega
 clear h bd hrest hrl hrz hx hx2 b10 b32 b9 b13 e10 ebl
 go_enter Try.func14, Try.ntmps14
 go_wp2_with fail
 go_quiet (fail)
 go_upto_region 13 with fail
 clear c0 c1
 have HK1 := hid ((Kp.refl w).drewN nq)
 generalize w.drewN nq = W1 at HK1 ⊢
 have H1 := hid (H.out.kp HK1.out)
 refine wp_region_kp [[], [0], [1], [2], [], [4], [5], [6], [3, 7], [8], [9]] (fun u => Kp W1 u)
  [eqV (.pointer (some ⟨cb, 0, none⟩)), eqV (.pointer (some ⟨cb, 0, none⟩)), eqV (.pointer (some ⟨cb, 0, none⟩)), eqV (.string S), eqV (.pointer (some ⟨cb, 0, none⟩)), eqV (.pointer (some ⟨cb, 0, none⟩)), eqV (.pointer (some ⟨cb, 1, none⟩)), eqV (.int .i64 (c.pos : Int)), eqV (.string rs), eqV (.bool pf), eqV (.bool pf)]
  (by kernel_rfl) (by kernel_rfl) (by kernel_rfl) (by kernel_rfl) ((Kp.refl _).drew) (fun _ _ hk h => h.trans hk) (by repeat' first | exact trivial | refine ⟨fun _ _ _ _ h => h, ?_⟩) ⟨?se0, ?se1, ?se2, ?se3, ?se4, ?se5, ?se6, ?se7, ?se8, ?se9, ?se10, trivial⟩ ?hEe
 case se0 | se4 => exact OpStepK.mv 0 (.pointer (some ⟨cb, 0, none⟩)) (by kernel_rfl) (free_ (by kernel_rfl)) (fun _ _ _ => by kernel_rfl) (fun _ => rfl)
 case se1 => exact OpStepK.op1 80 (.pointer (some ⟨cb, 0, none⟩)) (free_ (by kernel_rfl)) (fun x _ h => Eq.trans (b := some (x 0)) (by kernel_rfl) (congrArg some h.1)) fun a u e80 hg K hK => (by go_simp; exact hK.out _ _ (Kp.refl _) rfl)
 case se2 => exact OpStepK.op1 81 (.pointer (some ⟨cb, 0, none⟩)) (free_ (by kernel_rfl)) (fun x _ h => Eq.trans (b := some (x 1)) (by kernel_rfl) (congrArg some h.1)) fun a u e81 hg K hK => (by go_simp; exact hK.out _ _ (Kp.refl _) rfl)
 case se3 => exact OpStepK.op1 82 (.pointer (some ⟨cb, 0, none⟩)) (free_ (by kernel_rfl)) (fun x _ h => Eq.trans (b := some (x 2)) (by kernel_rfl) (congrArg some h.1)) fun a u e82 hg K hK => (by have q0 := cell_kp hg H1.out.lt H1.out.c0; go_simp; exact hK.out _ _ (Kp.refl _) rfl)
 case se5 => exact OpStepK.op1 84 (.pointer (some ⟨cb, 0, none⟩)) (free_ (by kernel_rfl)) (fun x _ h => Eq.trans (b := some (x 4)) (by kernel_rfl) (congrArg some h.1)) fun a u e84 hg K hK => (by go_simp; exact hK.out _ _ (Kp.refl _) rfl)
 case se6 => exact OpStepK.op1 85 (.pointer (some ⟨cb, 0, none⟩)) (free_ (by kernel_rfl)) (fun x _ h => Eq.trans (b := some (x 5)) (by kernel_rfl) (congrArg some h.1)) fun a u e85 hg K hK => (by go_simp; exact hK.out _ _ (Kp.refl _) rfl)
 case se7 => exact OpStepK.op1 86 (.pointer (some ⟨cb, 1, none⟩)) (free_ (by kernel_rfl)) (fun x _ h => Eq.trans (b := some (x 6)) (by kernel_rfl) (congrArg some h.1)) fun a u e86 hg K hK => (by have q0 := cell_kp hg H1.out.lt H1.out.c1; go_simp; exact hK.out _ _ (Kp.refl _) rfl)
 case se8 => exact OpStepK.op2 83 87 (.string S) (.int .i64 (c.pos : Int)) (free_ (by kernel_rfl)) (fun x _ h => Eq.trans (b := some (x 3)) (by kernel_rfl) (congrArg some h.1)) (fun x _ h => Eq.trans (b := some (x 7)) (by kernel_rfl) (congrArg some h.2.1)) fun a u e83 e87 hg K hK => (by go_simp; exact hK.out _ _ (Kp.refl _) rfl)
 case se10 => exact OpStepK.as 89 (.bool pf) (by kernel_rfl) (free_ (by kernel_rfl)) (fun x _ h => Eq.trans (b := x 9) (by kernel_rfl) h.1) (fun _ => rfl)
 case se9 =>
  intro x u hg hd K hK
  have d8 : (x 8) = .string rs := hd.1
  clear hd
  refine ⟨?_⟩
  simp only [putsFrom, Act.put, List.setIfInBounds_toArray, List.set_cons_zero, List.set_cons_succ, Nat.reduceAdd, d8] at hK ⊢
  go_simp
  go_at_call 25
  have hc := (has2K rs u)
  refine hc.mono ?_
  clear hc
  rintro e u' ⟨rfl, hk⟩
  dsimp only
  exact hK.out _ _ hk (congrArg Value.bool HX.out)
 intro x u hg he
 obtain ⟨d0, d1, d2, d3, d4, d5, d6, d7, d8, d9, d10, -⟩ := he
 refine ⟨?_⟩
 simp only [putsFrom, Act.put, List.setIfInBounds_toArray, List.set_cons_zero, List.set_cons_succ, Nat.reduceAdd, d0, d1, d2, d3, d4, d5, d6, d7, d8, d9, d10]
 clear d0 d1 d2 d3 d4 d5 d6 d7 d8 d9 d10
 have HG := hid (HK1.out.trans hg)
 clear hg
 have H2 := hid (H.out.kp HG.out)
 have HC2 := hid (HC.out.kp HG.out)
 have HBW := hid (Below.mono HG.out (Nat.le_of_lt HC.out.lt))
 generalize u = U2 at HG H2 HC2 HBW ⊢
 cases pf with
 | true =>
  have HN := hid (step_remark HRS.out HE.out HEB.out (HX2.out.1 rfl))
  have HS0 := hid (show SpanI noNl S c.pos c.pos from ⟨Nat.le_refl _, BD.out.pos, by omega⟩)
  go_wp2_with fail
  go_loopw [] (fun wr => ∃ k : Nat, SpanI noNl S c.pos k ∧ (∃ ov, Cut wr cb S { c with pos := k, col := c.col + ((k - c.pos : Nat) : Int) } ov) ∧ Below cb w wr) (fun wr => S.size - posOf wr cb)
  case atStart => exact ⟨c.pos, HS0.out, ⟨ov, by have h := H2.out; rw [Nat.sub_self]; simpa using h⟩, HBW.out⟩
  case round =>
   obtain ⟨k, hsp, ⟨ov2, hcu⟩, hbw⟩ := hrel
   have HSP := hid hsp; have HCU := hid hcu; have HBR := hid hbw
   have hpk := hsp.1
   clear hbw
   by_cases hk : k < S.size
   ·obtain ⟨b2, hb2⟩ : ∃ b2, S[k] = b2 := ⟨_, rfl⟩
    have i2 : (k : Int) < (S.size : Int) := by omega
    by_cases e2 : b2 = 10
    ·have n10 : ((b2.toNat : Int) != 10) = false := by
      have e3 : ((b2.toNat : Int) == 10) = true := (byte_beq b2 10 (by decide)).trans (by rw [e2]; rfl)
      rw [bne, e3]; rfl
     have hfin := hsp.fin (.inr ⟨hk, by rw [hb2, e2]; rfl⟩)
     have HF := hid (show stepM S c = .ok { c with pos := k, col := c.col + ((k - c.pos : Nat) : Int) } by
      rw [HN.out, hfin, show span_ noNl (restOf S c.pos) = k - c.pos by omega])
     clear hfin hsp
     go_upto_region 14 with fail
     refine tok14b S cb k b2 hcu.lt hcu.c0 hcu.c1 hk hb2 i2 n10 (fun u hg => ?_)
     have HGU := hid hg
     clear hg hcu
     go_wp2
     first | go_end0 | refine bodyPost_ret (results_none rfl _ _ _) rfl ?_
     exact ⟨.inl ⟨_, HF.out, rfl, ⟨_, HCU.out.kp HGU.out⟩, HSB.out _ HF.out⟩, Below.trans HBR.out (Below.mono HGU.out (Nat.le_of_lt HCU.out.lt))⟩
    ·have n10 : ((b2.toNat : Int) != 10) = true := by
      have e3 : ((b2.toNat : Int) == 10) = false := (byte_beq b2 10 (by decide)).trans (beq_eq_false_iff_ne.2 e2)
      rw [bne, e3]; rfl
     have HUP := hid (hsp.up hk hb2 (by unfold noNl; rw [bne, beq_eq_false_iff_ne.2 e2]; rfl))
     obtain ⟨p1, hp1⟩ : ∃ p1, k + 1 = p1 := ⟨_, rfl⟩
     obtain ⟨q0, hq0⟩ : ∃ q0, c.col + ((k - c.pos : Nat) : Int) = q0 := ⟨_, rfl⟩
     obtain ⟨q1, hq1⟩ : ∃ q1, q0 + 1 = q1 := ⟨_, rfl⟩
     have hq2 : c.col + ((p1 - c.pos : Nat) : Int) = q1 := by omega
     have k1 : IntKind.i64.wrap ((k : Int) + 1) = (p1 : Int) := by rw [IntKind.wrap_i64]; have := BD.out.size; omega
     have k2 : IntKind.i64.wrap (q0 + 1) = q1 := by rw [IntKind.wrap_i64]; have := BD.out.size; have := BD.out.c1; have := BD.out.c2; omega
     rw [hq0] at HCU
     have HP1 := hid hp1; have HQ2 := hid hq2
     go_upto_region 14 with fail
     refine tok14y S cb k b2 hcu.lt hcu.c0 hcu.c1 hk hb2 i2 n10 (fun u hg => ?_)
     have HGU := hid hg
     have HU := hid (HCU.out.kp hg)
     have d1 := HU.out.c1; have d3 := HU.out.c3; have g1 := HU.out.fz 1; have g3 := HU.out.fz 3
     clear hg hcu hsp hp1 hq0 hq1 hq2
     go_wp2
     have hcf : Cut ((u.setCell ⟨cb, 1, none⟩ (.int .i64 (p1 : Int))).setCell ⟨cb, 3, none⟩ (.int .i64 q1)) cb S { c with pos := p1, col := c.col + ((p1 - c.pos : Nat) : Int) } ov2 := by
      rw [HQ2.out]; exact (HU.out.at_pos p1).at_col q1
     refine ⟨⟨p1, by have h := HUP.out; rw [HP1.out] at h; exact h, ⟨_, hcf⟩, ((Below.trans HBR.out (Below.mono HGU.out (Nat.le_of_lt HCU.out.lt))).setCell (Nat.le_refl _) _).setCell (Nat.le_refl _) _⟩, ?_⟩
     rw [hcf.posOf, HCU.out.posOf]
     show S.size - p1 < S.size - k
     have := HP1.out; omega
   ·have i2 : ¬ (k : Int) < (S.size : Int) := by omega
    have hfin := hsp.fin (.inl (Nat.le_of_not_lt hk))
    have HF := hid (show stepM S c = .ok { c with pos := k, col := c.col + ((k - c.pos : Nat) : Int) } by
     rw [HN.out, hfin, show span_ noNl (restOf S c.pos) = k - c.pos by omega])
    clear hfin hsp
    go_upto_region 14 with fail
    refine tok14e S cb k hcu.lt hcu.c0 hcu.c1 i2 (fun u hg => ?_)
    have HGU := hid hg
    clear hg hcu
    go_wp2
    first | go_end0 | refine bodyPost_ret (results_none rfl _ _ _) rfl ?_
    exact ⟨.inl ⟨_, HF.out, rfl, ⟨_, HCU.out.kp HGU.out⟩, HSB.out _ HF.out⟩, Below.trans HBR.out (Below.mono HGU.out (Nat.le_of_lt HCU.out.lt))⟩
 | false =>
  have HNR := hid (show ¬ (b = 47 ∧ (restOf S (c.pos + 1)).head? = some 47) from fun e => by have := HX2.out.2 e; cases this)
  cases hl : letterB b with
  | true =>
   have HN := hid (step_name HRS.out HE.out HEB.out HNR.out hl)
   have HL := hid hl
   clear hl
   cases hq : nameM S c with
   | ok c2 =>
    have HQ := hid hq
    clear hq
    go_wp2_with first | (go_at_call 26; go_must (refine (letter_any b _).mono ?_); rintro e w8 ⟨rfl, rfl⟩; rw [HL.out]) | (go_at_call 27; go_must (refine (name_any _ cb S c HC2.out).mono ?_); intro e w9 hp; obtain ⟨he, hc2, hb2⟩ := CutP.of_ok hp HQ.out; subst he; clear hp)
    first | go_end0 | refine bodyPost_ret (results_none rfl _ _ _) rfl ?_
    exact ⟨.inl ⟨_, HN.out.trans HQ.out, rfl, hc2⟩, Below.trans HBW.out hb2⟩
   | error er =>
    have HQ := hid hq
    clear hq
    go_wp2_with first | (go_at_call 26; go_must (refine (letter_any b _).mono ?_); rintro e w8 ⟨rfl, rfl⟩; rw [HL.out]) | (go_at_call 27; go_must (refine (name_any _ cb S c HC2.out).mono ?_); intro e w9 hp; obtain ⟨he, hb2⟩ := CutP.of_err hp HQ.out; unfold stopE at he; subst he; clear hp)
    exact ⟨rfl, .inr ⟨_, HN.out.trans HQ.out, rfl⟩, Below.trans HBW.out hb2⟩
  | false =>
   have HL := hid hl
   cases hd : digitB b with
   | true =>
    have HN := hid (step_number HRS.out HE.out HEB.out HNR.out hl hd)
    have HD := hid hd
    clear hl hd
    cases hq : numberM S c with
    | ok c2 =>
     have HQ := hid hq
     clear hq
     go_wp2_with first | (go_at_call 26; go_must (refine (letter_any b _).mono ?_); rintro e w8 ⟨rfl, rfl⟩; rw [HL.out]) | (go_at_call 28; go_must (refine (digit_any b _).mono ?_); rintro e w8 ⟨rfl, rfl⟩; rw [HD.out]) | (go_at_call 29; go_must (refine (number_any _ cb S c HC2.out).mono ?_); intro e w9 hp; obtain ⟨he, hc2, hb2⟩ := CutP.of_ok hp HQ.out; subst he; clear hp)
     first | go_end0 | refine bodyPost_ret (results_none rfl _ _ _) rfl ?_
     exact ⟨.inl ⟨_, HN.out.trans HQ.out, rfl, hc2⟩, Below.trans HBW.out hb2⟩
    | error er =>
     have HQ := hid hq
     clear hq
     go_wp2_with first | (go_at_call 26; go_must (refine (letter_any b _).mono ?_); rintro e w8 ⟨rfl, rfl⟩; rw [HL.out]) | (go_at_call 28; go_must (refine (digit_any b _).mono ?_); rintro e w8 ⟨rfl, rfl⟩; rw [HD.out]) | (go_at_call 29; go_must (refine (number_any _ cb S c HC2.out).mono ?_); intro e w9 hp; obtain ⟨he, hb2⟩ := CutP.of_err hp HQ.out; unfold stopE at he; subst he; clear hp)
     exact ⟨rfl, .inr ⟨_, HN.out.trans HQ.out, rfl⟩, Below.trans HBW.out hb2⟩
   | false =>
    have HD := hid hd
    by_cases e34 : b = 34
    ·have t34 : ((b.toNat : Int) == 34) = true := b34.trans (by rw [e34]; rfl)
     have hr9 := HRS.out
     rw [e34] at hr9
     have HN := hid (step_text hr9 rfl)
     have HR9 := hid hr9
     clear hl hd e34 hr9
     cases hq : textM S c with
     | ok c2 =>
      have HQ := hid hq
      clear hq
      go_wp2_with first | (go_at_call 26; go_must (refine (letter_any b _).mono ?_); rintro e w8 ⟨rfl, rfl⟩; rw [HL.out]) | (go_at_call 28; go_must (refine (digit_any b _).mono ?_); rintro e w8 ⟨rfl, rfl⟩; rw [HD.out]) | (go_at_call 30; go_must (refine (ctext_any _ cb S c HC2.out HR9.out).mono ?_); intro e w9 hp; obtain ⟨he, hc2, hb2⟩ := CutP.of_ok hp HQ.out; subst he; clear hp)
      first | go_end0 | refine bodyPost_ret (results_none rfl _ _ _) rfl ?_
      exact ⟨.inl ⟨_, HN.out.trans HQ.out, rfl, hc2⟩, Below.trans HBW.out hb2⟩
     | error er =>
      have HQ := hid hq
      clear hq
      go_wp2_with first | (go_at_call 26; go_must (refine (letter_any b _).mono ?_); rintro e w8 ⟨rfl, rfl⟩; rw [HL.out]) | (go_at_call 28; go_must (refine (digit_any b _).mono ?_); rintro e w8 ⟨rfl, rfl⟩; rw [HD.out]) | (go_at_call 30; go_must (refine (ctext_any _ cb S c HC2.out HR9.out).mono ?_); intro e w9 hp; obtain ⟨he, hb2⟩ := CutP.of_err hp HQ.out; unfold stopE at he; subst he; clear hp)
      exact ⟨rfl, .inr ⟨_, HN.out.trans HQ.out, rfl⟩, Below.trans HBW.out hb2⟩
    ·have t34 : ((b.toNat : Int) == 34) = false := b34.trans (beq_eq_false_iff_ne.2 e34)
     by_cases e59 : b = 59
     ·have t59 : ((b.toNat : Int) == 59) = true := b59.trans (by rw [e59]; rfl)
      have hr9 := HRS.out
      rw [e59] at hr9
      have e1 : S.extract c.pos (c.pos + 1) = ⟨#[59]⟩ := by
       refine bytes_eq ?_
       rw [ext_rest, hr9]; rfl
      have HN := hid (show stepM S c = putM c 6 ⟨#[59]⟩ 1 by rw [step_semi hr9, e1])
      clear hl hd e34 e59 hr9 e1
      cases hq : putM c 6 ⟨#[59]⟩ 1 with
      | ok c2 =>
       have HQ := hid hq
       clear hq
       go_wp2_with first | (go_at_call 26; go_must (refine (letter_any b _).mono ?_); rintro e w8 ⟨rfl, rfl⟩; rw [HL.out]) | (go_at_call 28; go_must (refine (digit_any b _).mono ?_); rintro e w8 ⟨rfl, rfl⟩; rw [HD.out]) | (go_at_call 31; go_must (refine (put_any _ cb S c HC2.out 6 (by unfold okI; omega) ⟨#[59]⟩ (by decide) 1 (by have := HPL.out; omega)).mono ?_); intro e w9 hp; obtain ⟨he, hc2, hb2⟩ := CutP.of_ok hp HQ.out; subst he; clear hp)
       first | go_end0 | refine bodyPost_ret (results_none rfl _ _ _) rfl ?_
       exact ⟨.inl ⟨_, HN.out.trans HQ.out, rfl, hc2⟩, Below.trans HBW.out hb2⟩
      | error er =>
       have HQ := hid hq
       clear hq
       go_wp2_with first | (go_at_call 26; go_must (refine (letter_any b _).mono ?_); rintro e w8 ⟨rfl, rfl⟩; rw [HL.out]) | (go_at_call 28; go_must (refine (digit_any b _).mono ?_); rintro e w8 ⟨rfl, rfl⟩; rw [HD.out]) | (go_at_call 31; go_must (refine (put_any _ cb S c HC2.out 6 (by unfold okI; omega) ⟨#[59]⟩ (by decide) 1 (by have := HPL.out; omega)).mono ?_); intro e w9 hp; obtain ⟨he, hb2⟩ := CutP.of_err hp HQ.out; unfold stopE at he; subst he; clear hp)
       exact ⟨rfl, .inr ⟨_, HN.out.trans HQ.out, rfl⟩, Below.trans HBW.out hb2⟩
     ·have t59 : ((b.toNat : Int) == 59) = false := b59.trans (beq_eq_false_iff_ne.2 e59)
      have HN := hid (step_sign HRS.out HE.out HEB.out HNR.out hl hd e34 e59)
      obtain ⟨sg, hsg⟩ : ∃ sg, rs.extract 0 (signLen rs.data.toList) = sg := ⟨_, rfl⟩
      have hsl := signLen_le (restOf S c.pos)
      rw [rest_len] at hsl
      have hse : S.extract c.pos (c.pos + signLen (restOf S c.pos)) = sg := by
       rw [← hsg, HRL.out]
       refine (bytes_eq (ext_rest _ _ _)).trans (bytes_eq ?_).symm
       have e := ext_take rs (signLen (restOf S c.pos))
       rw [ByteArray.toList_eq, HRL.out] at e
       exact e
      have hsz : sg.size = signLen (restOf S c.pos) := by
       rw [← hse]; have := ext_size (S := S) (a := c.pos) (k := c.pos + signLen (restOf S c.pos)) (by omega) (by have := HPL.out; omega)
       omega
      rw [hse, ← hsz] at HN
      have HSG := hid hsg
      have HSS := hid (show sg.size ≤ 140737488351232 ∧ c.pos + sg.size ≤ S.size by have := BD.out.size; have := HPL.out; omega)
      have hrz2 := hid (show rs.size ≤ 140737488351232 by have := HRZ.out; have := BD.out.size; omega)
      clear hl hd e34 e59 hsl hse hsg hsz
      go_upto_region 1 with first | (go_at_call 26; go_must (refine (letter_any b _).mono ?_); rintro e w8 ⟨rfl, rfl⟩; rw [HL.out]) | (go_at_call 28; go_must (refine (digit_any b _).mono ?_); rintro e w8 ⟨rfl, rfl⟩; rw [HD.out])
      refine wp_region_kp [[], [0], [1], [2], [], [4], [5], [6], [3, 7], [8], [9]] (fun u => Kp U2 u)
       [eqV (.pointer (some ⟨cb, 0, none⟩)), eqV (.pointer (some ⟨cb, 0, none⟩)), eqV (.pointer (some ⟨cb, 0, none⟩)), eqV (.string S), eqV (.pointer (some ⟨cb, 0, none⟩)), eqV (.pointer (some ⟨cb, 0, none⟩)), eqV (.pointer (some ⟨cb, 1, none⟩)), eqV (.int .i64 (c.pos : Int)), eqV (.string rs), eqV (.string sg), eqV (.string sg)]
       (by kernel_rfl) (by kernel_rfl) (by kernel_rfl) (by kernel_rfl) ((Kp.refl _).drew) (fun _ _ hk h => h.trans hk) (by repeat' first | exact trivial | refine ⟨fun _ _ _ _ h => h, ?_⟩) ⟨?sf0, ?sf1, ?sf2, ?sf3, ?sf4, ?sf5, ?sf6, ?sf7, ?sf8, ?sf9, ?sf10, trivial⟩ ?hEf
      case sf0 | sf4 => exact OpStepK.mv 0 (.pointer (some ⟨cb, 0, none⟩)) (by kernel_rfl) (free_ (by kernel_rfl)) (fun _ _ _ => by kernel_rfl) (fun _ => rfl)
      case sf1 => exact OpStepK.op1 13 (.pointer (some ⟨cb, 0, none⟩)) (free_ (by kernel_rfl)) (fun x _ h => Eq.trans (b := some (x 0)) (by kernel_rfl) (congrArg some h.1)) fun a u e13 hg K hK => (by go_simp; exact hK.out _ _ (Kp.refl _) rfl)
      case sf2 => exact OpStepK.op1 14 (.pointer (some ⟨cb, 0, none⟩)) (free_ (by kernel_rfl)) (fun x _ h => Eq.trans (b := some (x 1)) (by kernel_rfl) (congrArg some h.1)) fun a u e14 hg K hK => (by go_simp; exact hK.out _ _ (Kp.refl _) rfl)
      case sf3 => exact OpStepK.op1 15 (.pointer (some ⟨cb, 0, none⟩)) (free_ (by kernel_rfl)) (fun x _ h => Eq.trans (b := some (x 2)) (by kernel_rfl) (congrArg some h.1)) fun a u e15 hg K hK => (by have q0 := cell_kp hg H2.out.lt H2.out.c0; go_simp; exact hK.out _ _ (Kp.refl _) rfl)
      case sf5 => exact OpStepK.op1 17 (.pointer (some ⟨cb, 0, none⟩)) (free_ (by kernel_rfl)) (fun x _ h => Eq.trans (b := some (x 4)) (by kernel_rfl) (congrArg some h.1)) fun a u e17 hg K hK => (by go_simp; exact hK.out _ _ (Kp.refl _) rfl)
      case sf6 => exact OpStepK.op1 18 (.pointer (some ⟨cb, 0, none⟩)) (free_ (by kernel_rfl)) (fun x _ h => Eq.trans (b := some (x 5)) (by kernel_rfl) (congrArg some h.1)) fun a u e18 hg K hK => (by go_simp; exact hK.out _ _ (Kp.refl _) rfl)
      case sf7 => exact OpStepK.op1 19 (.pointer (some ⟨cb, 1, none⟩)) (free_ (by kernel_rfl)) (fun x _ h => Eq.trans (b := some (x 6)) (by kernel_rfl) (congrArg some h.1)) fun a u e19 hg K hK => (by have q0 := cell_kp hg H2.out.lt H2.out.c1; go_simp; exact hK.out _ _ (Kp.refl _) rfl)
      case sf8 => exact OpStepK.op2 16 20 (.string S) (.int .i64 (c.pos : Int)) (free_ (by kernel_rfl)) (fun x _ h => Eq.trans (b := some (x 3)) (by kernel_rfl) (congrArg some h.1)) (fun x _ h => Eq.trans (b := some (x 7)) (by kernel_rfl) (congrArg some h.2.1)) fun a u e16 e20 hg K hK => (by go_simp; exact hK.out _ _ (Kp.refl _) rfl)
      case sf10 => exact OpStepK.as 22 (.string sg) (by kernel_rfl) (free_ (by kernel_rfl)) (fun x _ h => Eq.trans (b := x 9) (by kernel_rfl) h.1) (fun _ => rfl)
      case sf9 =>
       intro x u hg hd K hK
       have d8 : (x 8) = .string rs := hd.1
       clear hd
       refine ⟨?_⟩
       simp only [putsFrom, Act.put, List.setIfInBounds_toArray, List.set_cons_zero, List.set_cons_succ, Nat.reduceAdd, d8] at hK ⊢
       go_simp
       go_at_call 32
       have hc := (sign_any rs u hrz2.out)
       refine hc.mono ?_
       clear hc
       rintro e u' ⟨rfl, hk⟩
       dsimp only
       exact hK.out _ _ hk (congrArg Value.string HSG.out)
      intro x u hg he
      obtain ⟨d0, d1, d2, d3, d4, d5, d6, d7, d8, d9, d10, -⟩ := he
      refine ⟨?_⟩
      simp only [putsFrom, Act.put, List.setIfInBounds_toArray, List.set_cons_zero, List.set_cons_succ, Nat.reduceAdd, d0, d1, d2, d3, d4, d5, d6, d7, d8, d9, d10]
      clear d0 d1 d2 d3 d4 d5 d6 d7 d8 d9 d10
      have HG3 := hid hg
      have HC3 := hid (HC2.out.kp hg)
      have HBW3 := hid (Below.trans HBW.out (Below.mono hg (Nat.le_of_lt HC2.out.lt)))
      clear hg
      by_cases hz : sg.size = 0
      ·have HN3 := hid (HN.out.trans (if_pos hz))
       have tz : (sg.toList == []) = true := by
        rw [ByteArray.toList_eq, beq_iff_eq]
        exact List.eq_nil_of_length_eq_zero (by rw [Array.length_toList]; exact hz)
       clear hz
       go_wp2_with (go_at_call 33; go_must (refine (fail_any _ cb S c HC3.out 2).mono ?_); rintro e w9 ⟨he, hk9⟩; unfold stopE at he; subst he)
       exact ⟨rfl, .inr ⟨_, HN3.out, rfl⟩, Below.trans HBW3.out (Below.mono hk9 (Nat.le_of_lt HC3.out.lt))⟩
      ·have HN := hid (HN.out.trans (if_neg hz))
       have tz : (sg.toList == []) = false := by
        rw [ByteArray.toList_eq, beq_eq_false_iff_ne]
        intro e
        have := congrArg List.length e
        rw [Array.length_toList] at this
        exact hz this
       clear hz
       cases hq : putM c 4 sg sg.size with
       | ok c2 =>
        have HQ := hid hq
        clear hq
        go_wp2_with first | fail | (go_at_call 31; go_must (refine (put_any _ cb S c HC3.out 4 (by unfold okI; omega) sg HSS.out.1 sg.size HSS.out.2).mono ?_); intro e w9 hp; obtain ⟨he, hc2, hb2⟩ := CutP.of_ok hp HQ.out; subst he; clear hp)
        first | go_end0 | refine bodyPost_ret (results_none rfl _ _ _) rfl ?_
        exact ⟨.inl ⟨_, HN.out.trans HQ.out, rfl, hc2⟩, Below.trans HBW3.out hb2⟩
       | error er =>
        have HQ := hid hq
        clear hq
        go_wp2_with first | fail | (go_at_call 31; go_must (refine (put_any _ cb S c HC3.out 4 (by unfold okI; omega) sg HSS.out.1 sg.size HSS.out.2).mono ?_); intro e w9 hp; obtain ⟨he, hb2⟩ := CutP.of_err hp HQ.out; unfold stopE at he; subst he; clear hp)
        exact ⟨rfl, .inr ⟨_, HN.out.trans HQ.out, rfl⟩, Below.trans HBW3.out hb2⟩
end Go.Proofs.Ytcjgagmcnmmfoaa

namespace Go.Proofs.Ytcjgagmcnmmfoaa
open Go.RowKit

theorem unq_nonl : ∀ (n : Nat) (l o : Bs), l.length ≤ n → unq l = some o → ∀ b ∈ l, b ≠ 10
 | _, [], o, _, _, b, hb => by cases hb
 | _, [c], o, _, h, b, hb => by
  rw [List.mem_singleton] at hb; subst hb
  rintro rfl
  rw [unq_bad 10 [] (by decide)] at h; cases h
 | 0, c :: d :: r, o, hn, _, b, hb => by simp at hn
 | n + 1, c :: d :: r, o, hn, h, b, hb => by
  by_cases h1 : badU c = true
  ·rw [unq_bad c _ h1] at h; cases h
  have h1' : badU c = false := by cases hc : badU c with
   | true => exact absurd hc h1
   | false => rfl
  have hc : c ≠ 10 := by rintro rfl; exact absurd h1' (by decide)
  by_cases h2 : c = 92
  ·subst h2
   cases hx : unesc d with
   | none => rw [unq_noesc d r hx] at h; cases h
   | some x =>
    rw [unq_esc d x r hx] at h
    cases hr : unq r with
    | none => rw [hr] at h; cases h
    | some o2 =>
     have hd : d ≠ 10 := by rintro rfl; rw [show unesc 10 = none by decide] at hx; cases hx
     rcases List.mem_cons.1 hb with rfl | hb
     ·exact hc
     ·rcases List.mem_cons.1 hb with rfl | hb
      ·exact hd
      ·exact unq_nonl n r o2 (by simp at hn; omega) hr b hb
  ·rw [unq_plain c _ h1' h2] at h
   cases hr : unq (d :: r) with
   | none => rw [hr] at h; cases h
   | some o2 =>
    rcases List.mem_cons.1 hb with rfl | hb
    ·exact hc
    ·exact unq_nonl n (d :: r) o2 (by simp at hn ⊢; omega) hr b hb
theorem span_all {p : UInt8 → Bool} : ∀ (l : Bs), ∀ b ∈ l.take (span_ p l), p b = true
 | [], b, hb => by cases hb
 | c :: r, b, hb => by
  by_cases hc : p c = true
  ·rw [span_cons hc, List.take_succ_cons] at hb
   rcases List.mem_cons.1 hb with rfl | hb
   ·exact hc
   ·exact span_all r b hb
  ·rw [span_stop (by cases h : p c with | true => exact absurd h hc | false => rfl)] at hb
   cases hb
theorem word_nonl {b : UInt8} (h : wordB b = true) : b ≠ 10 := by rintro rfl; exact absurd h (by decide)
theorem text_nonl {r : Bs} {k : Nat} (h1 : txtLen r = some k) (h2 : okText (r.take k) = true) : (∀ b ∈ (34 :: r).take (k + 2), b ≠ 10) ∧ ∃ s, r = r.take k ++ 34 :: s := by
 have hs : ∀ (n : Nat) (r : Bs) (k : Nat), r.length ≤ n → txtLen r = some k → r[k]? = some 34 := by
  intro n
  induction n with
  | zero =>
   intro r k hn h
   cases r with
   | nil => simp [txtLen] at h
   | cons _ _ => simp at hn
  | succ n ih =>
   intro r k hn h
   match r, hn, h with
   | [], _, h => simp [txtLen] at h
   | [c], _, h =>
    unfold txtLen at h
    split at h
    ·rename_i hc; injection h with h; subst h; subst hc; rfl
    ·cases h
   | c :: d :: t, hn, h =>
    unfold txtLen at h
    split at h
    ·rename_i hc; injection h with h; subst h; subst hc; rfl
    ·split at h
     ·cases h
     ·split at h
      ·cases ht : txtLen t with
       | none => rw [ht] at h; cases h
       | some j =>
        rw [ht] at h; injection h with h; subst h
        have := ih t j (by simp at hn; omega) ht
        simpa using this
      ·cases ht : txtLen (d :: t) with
       | none => rw [ht] at h; cases h
       | some j =>
        rw [ht] at h; injection h with h; subst h
        have := ih (d :: t) j (by simp at hn ⊢; omega) ht
        simpa using this
 have hk := hs _ r k (Nat.le_refl _) h1
 obtain ⟨hkl, hke⟩ := List.getElem?_eq_some_iff.1 hk
 have hd : r = r.take k ++ 34 :: r.drop (k + 1) := by
  have e := List.take_append_drop k r
  rw [List.drop_eq_getElem_cons hkl, hke] at e
  exact e.symm
 refine ⟨fun b hb => ?_, _, hd⟩
 rw [List.take_succ_cons] at hb
 rcases List.mem_cons.1 hb with rfl | hb
 ·decide
 ·have e : r.take (k + 1) = r.take k ++ [34] := by rw [List.take_succ_eq_append_getElem hkl, hke]
  rw [e] at hb
  rcases List.mem_append.1 hb with hb | hb
  ·unfold okText at h2
   cases hu : unq (r.take k) with
   | none => rw [hu] at h2; cases h2
   | some o => exact unq_nonl _ _ o (Nat.le_refl _) hu b hb
  ·rw [List.mem_singleton] at hb; subst hb; decide
theorem sign_nonl (l : Bs) : ∀ b ∈ l.take (signLen l), b ≠ 10 := by
 intro b hb
 rintro rfl
 match l, hb with
 | [], hb => cases hb
 | [a], hb =>
  simp only [signLen] at hb
  by_cases h : signs1.contains a = true
  ·rw [if_pos h] at hb
   have e : 10 = a := by simpa using hb
   subst e
   exact absurd h (by decide)
  ·rw [if_neg h] at hb; cases hb
 | a :: c :: r, hb =>
  simp only [signLen] at hb
  by_cases h : signs2.contains [a, c] = true
  ·rw [if_pos h] at hb
   have e : 10 = a ∨ 10 = c := by simpa using hb
   rcases e with rfl | rfl
   ·revert h; simp [signs2]
   ·revert h; simp [signs2]
  ·rw [if_neg h] at hb
   by_cases h1 : signs1.contains a = true
   ·rw [if_pos h1] at hb
    have e : 10 = a := by simpa using hb
    subst e
    exact absurd h1 (by decide)
   ·rw [if_neg h1] at hb; cases hb
theorem lex_nonl {l : Bs} {n : Nat} (h : lex l = .skip n ∨ ∃ k, lex l = .tok k n) : ∀ b ∈ l.take n, b ≠ 10 := by
 cases l with
 | nil => intro b hb; simp at hb
 | cons c r =>
  by_cases h1 : c = 10
  ·subst h1; rw [lex_nl] at h; rcases h with h | ⟨k, h⟩ <;> cases h
  by_cases h2 : c = 32 ∨ c = 9 ∨ c = 13
  ·rw [lex_blank r h1 h2] at h
   rcases h with h | ⟨k, h⟩
   ·injection h with h; subst h
    intro b hb
    simp at hb; subst hb; exact h1
   ·cases h
  by_cases h3 : c = 47 ∧ r.head? = some 47
  ·rw [lex_remark h1 h2 h3] at h
   rcases h with h | ⟨k, h⟩
   ·injection h with h; subst h
    intro b hb
    have := span_all (p := noNl) (c :: r) b hb
    rintro rfl; exact absurd this (by decide)
   ·cases h
  cases h4 : letterB c with
  | true =>
   rw [lex_name h1 h2 h3 h4] at h
   split at h
   ·rcases h with h | ⟨k, h⟩ <;> cases h
   ·rcases h with h | ⟨k, h⟩
    ·cases h
    ·injection h with _ h; subst h
     intro b hb
     exact word_nonl (span_all _ b hb)
  | false =>
   cases h5 : digitB c with
   | true =>
    rw [lex_number h1 h2 h3 h4 h5] at h
    split at h
    ·rcases h with h | ⟨k, h⟩
     ·cases h
     ·injection h with _ h; subst h
      intro b hb
      exact word_nonl (span_all _ b hb)
    ·rcases h with h | ⟨k, h⟩ <;> cases h
   | false =>
    by_cases h6 : c = 34
    ·subst h6
     rw [lex_text] at h
     cases ht : txtLen r with
     | none => rw [ht] at h; rcases h with h | ⟨k, h⟩ <;> cases h
     | some j =>
      rw [ht] at h
      dsimp only at h
      split at h
      ·rename_i ho
       rcases h with h | ⟨k, h⟩
       ·cases h
       ·injection h with _ h; subst h
        exact (text_nonl ht ho).1
      ·rcases h with h | ⟨k, h⟩ <;> cases h
    ·by_cases h7 : c = 59
     ·subst h7
      rw [lex_semi] at h
      rcases h with h | ⟨k, h⟩
      ·cases h
      ·injection h with _ h; subst h
       intro b hb
       simp at hb; subst hb; decide
     ·rw [lex_sign h1 h2 h3 h4 h5 h6 h7] at h
      split at h
      ·rcases h with h | ⟨k, h⟩ <;> cases h
      ·rcases h with h | ⟨k, h⟩
       ·cases h
       ·injection h with _ h; subst h
        exact sign_nonl _
def posL (S : ByteArray) : Nat → Int × Int
 | 0 => (1, 1)
 | a + 1 => if S.data.toList[a]? = some 10 then ((posL S a).1 + 1, 1) else ((posL S a).1, (posL S a).2 + 1)
theorem posL_nl {S : ByteArray} {a : Nat} (h : S.data.toList[a]? = some 10) : posL S (a + 1) = ((posL S a).1 + 1, 1) := by rw [posL, if_pos h]
theorem posL_up {S : ByteArray} {a : Nat} (h : S.data.toList[a]? ≠ some 10) : posL S (a + 1) = ((posL S a).1, (posL S a).2 + 1) := by rw [posL, if_neg h]
theorem posL_add {S : ByteArray} {a : Nat} : ∀ n : Nat, (∀ b ∈ (restOf S a).take n, b ≠ 10) → posL S (a + n) = ((posL S a).1, (posL S a).2 + n)
 | 0, _ => by simp
 | n + 1, h => by
  have ih := posL_add (S := S) (a := a) n (fun b hb => h b (List.mem_of_mem_take (by rw [List.take_take, Nat.min_eq_left (Nat.le_succ n)] ; exact hb : b ∈ ((restOf S a).take (n + 1)).take n)))
  have e : S.data.toList[a + n]? ≠ some 10 := by
   intro he
   have he2 : (restOf S a)[n]? = some 10 := by unfold restOf; rw [List.getElem?_drop]; exact he
   obtain ⟨h1, h2⟩ := List.getElem?_eq_some_iff.1 he2
   exact h 10 (by rw [List.take_succ_eq_append_getElem h1, h2]; simp) rfl
  rw [← Nat.add_assoc, posL_up e, ih]
  simp; omega
def TokAt (S : ByteArray) (t : TokenM) (a : Nat) : Prop := a ≤ S.size ∧ posL S a = (t.line, t.col) ∧
 ((a + t.text.size ≤ S.size ∧ S.extract a (a + t.text.size) = t.text) ∨ (t.kind = 6 ∧ t.text = semiB ∧ (S.size = a ∨ S.data.toList[a]? = some 10)))
def Placed (S : ByteArray) (l : List TokenM) (p : Nat) : Prop := ∃ f : Nat → Nat, (∀ i t, l[i]? = some t → TokAt S t (f i)) ∧ (∀ i, f i ≤ f (i + 1)) ∧ ∀ i, f i ≤ p
theorem Placed.mono {S : ByteArray} {l : List TokenM} {p q : Nat} (h : Placed S l p) (hq : p ≤ q) : Placed S l q := by
 obtain ⟨f, h1, h2, h3⟩ := h
 exact ⟨f, h1, h2, fun i => Nat.le_trans (h3 i) hq⟩
theorem Placed.snoc {S : ByteArray} {l : List TokenM} {p : Nat} {t : TokenM} (h : Placed S l p) (ht : TokAt S t p) : Placed S (l ++ [t]) p := by
 obtain ⟨f, h1, h2, h3⟩ := h
 refine ⟨fun i => if i < l.length then f i else p, fun i t' hi => ?_, fun i => ?_, fun i => ?_⟩
 ·by_cases hl : i < l.length
  ·rw [List.getElem?_append_left hl] at hi
   show TokAt S t' (if i < l.length then f i else p)
   rw [if_pos hl]; exact h1 i t' hi
  ·rw [List.getElem?_append_right (by omega)] at hi
   have : i - l.length = 0 := by
    rcases Nat.eq_zero_or_pos (i - l.length) with h | h
    ·exact h
    ·rw [List.getElem?_eq_none (by simp; omega)] at hi; cases hi
   rw [this] at hi
   injection hi with hi; subst hi
   show TokAt S t (if i < l.length then f i else p)
   rw [if_neg hl]; exact ht
 ·show (if i < l.length then f i else p) ≤ (if i + 1 < l.length then f (i + 1) else p)
  split
  ·split
   ·exact h2 i
   ·exact h3 i
  ·rw [if_neg (by omega)]; exact Nat.le_refl _
 ·show (if i < l.length then f i else p) ≤ p
  split
  ·exact h3 i
  ·exact Nat.le_refl _
structure CInv (S : ByteArray) (c : CutM) : Prop where
 bd : CBd S c
 at_ : posL S c.pos = (c.line, c.col)
 pl : Placed S c.out c.pos
theorem CInv.lineEnd {S : ByteArray} {c c' : CutM} (h : CInv S c) (hs : S.size = c.pos ∨ S.data.toList[c.pos]? = some 10) (hp : lineEndM c = .ok c') : CInv S c' ∧ c'.pos = c.pos ∧ c'.line = c.line ∧ c'.col = c.col := by
 obtain ⟨h1, h2⟩ := h.bd.lineEnd hp
 rcases lineEndM_ok hp with rfl | hq
 ·exact ⟨h, rfl, rfl, rfl⟩
 ·obtain ⟨_, rfl⟩ := putM_ok hq
  refine ⟨⟨h1, ?_, ?_⟩, rfl, rfl, by show c.col + ((0 : Nat) : Int) = c.col; omega⟩
  ·show posL S (c.pos + 0) = (c.line, c.col + ((0 : Nat) : Int))
   rw [Nat.add_zero, h.at_]; simp
  ·show Placed S (c.out ++ [_]) (c.pos + 0)
   exact h.pl.snoc ⟨h.bd.pos, h.at_, .inr ⟨rfl, rfl, hs⟩⟩
theorem rest_at (S : ByteArray) (a : Nat) (h : a < S.size) : S.data.toList[a]? = some S[a] := by
 rw [Array.getElem?_toList]; exact Array.getElem?_eq_getElem h
theorem CInv.step {S : ByteArray} {c c' : CutM} (h : CInv S c) (hl : c.pos < S.size) (hp : stepM S c = .ok c') : CInv S c' ∧ c.pos < c'.pos := by
 obtain ⟨h1, h2⟩ := h.bd.step hl hp
 refine ⟨?_, h2⟩
 have hne : restOf S c.pos ≠ [] := by rw [rest_cons hl]; exact List.cons_ne_nil _ _
 obtain ⟨g1, g2, g3⟩ := lex_len hne
 rw [rest_len] at g1 g2
 unfold stepM at hp
 split at hp
 ·rename_i hx
  have h10 : S.data.toList[c.pos]? = some 10 := by
   rw [rest_at S c.pos hl]
   by_cases e : S[c.pos] = 10
   ·rw [e]
   ·exfalso
    have hr := rest_cons hl
    rw [hr] at hx
    revert hx
    unfold lex
    dsimp only
    rw [if_neg e]
    repeat' split
    all_goals (intro hx; cases hx)
  cases hq : lineEndM c with
  | error e => rw [hq] at hp; cases hp
  | ok c1 =>
   rw [hq] at hp
   injection hp with hp
   subst hp
   obtain ⟨k1, k2, k3, k4⟩ := h.lineEnd (.inr h10) hq
   refine ⟨h1, ?_, k1.pl.mono (by show c1.pos ≤ c1.pos + 1; omega)⟩
   show posL S (c1.pos + 1) = (c1.line + 1, 1)
   rw [k2, posL_nl h10, h.at_, k3]
 ·rename_i n hn
  injection hp with hp
  subst hp
  refine ⟨h1, ?_, h.pl.mono (by show c.pos ≤ c.pos + n; omega)⟩
  show posL S (c.pos + n) = (c.line, c.col + n)
  rw [posL_add n (lex_nonl (.inl hn)), h.at_]
 ·rename_i k n hn
  obtain ⟨_, rfl⟩ := putM_ok hp
  have hz := g2 k n hn
  have hsz : (S.extract c.pos (c.pos + n)).size = n := by rw [ext_size (by omega) (by omega)]; omega
  refine ⟨h1, ?_, ?_⟩
  ·show posL S (c.pos + n) = (c.line, c.col + n)
   rw [posL_add n (lex_nonl (.inr ⟨k, hn⟩)), h.at_]
  ·show Placed S (c.out ++ [_]) (c.pos + n)
   exact (h.pl.snoc (t := ⟨k, S.extract c.pos (c.pos + n), c.line, c.col⟩) ⟨h.bd.pos, h.at_, .inl ⟨by show c.pos + (S.extract c.pos (c.pos + n)).size ≤ S.size; omega, by show S.extract c.pos (c.pos + (S.extract c.pos (c.pos + n)).size) = _; rw [hsz]⟩⟩).mono (by omega)
 ·cases hp
theorem cut0_inv {S : ByteArray} (h : S.size ≤ 8000) : CInv S cut0 := ⟨cut0_bd h, rfl, ⟨fun _ => 0, fun i t hi => by simp [cut0] at hi, fun _ => Nat.le_refl _, fun _ => Nat.le_refl _⟩⟩
theorem Runs.placed {S : ByteArray} {c : CutM} {r : Except Err (List TokenM)} (h : Runs S c r) (hi : CInv S c) : ∀ l, r = .ok l → Placed S l S.size ∧ l.length ≤ 2000 := by
 induction h with
 | @fin c hf =>
  intro l hl
  have hpos := hi.bd.pos
  cases hq : lineEndM c with
  | error e => rw [hq] at hl; cases hl
  | ok c2 =>
   rw [hq] at hl
   injection hl with hl
   subst hl
   obtain ⟨k1, k2, _⟩ := hi.lineEnd (.inl (by omega)) hq
   exact ⟨k1.pl.mono (by rw [k2]; exact hpos), k1.bd.out⟩
 | step h1 h2 h3 ih => exact ih (hi.step h1 h2).1
 | bad h1 h2 => intro l hl; cases hl
theorem ToksM.placed {S : ByteArray} {l : List TokenM} (h : ToksM S (.ok l)) : Placed S l S.size ∧ l.length ≤ 2000 ∧ S.size ≤ 8000 := by
 unfold ToksM at h
 by_cases h8 : 8000 < S.size
 ·rw [if_pos h8] at h; cases h
 ·rw [if_neg h8] at h
  obtain ⟨h1, h2⟩ := h.placed (cut0_inv (by omega)) l rfl
  exact ⟨h1, h2, by omega⟩
theorem ToksM.det {S : ByteArray} {r r' : Except Err (List TokenM)} (h : ToksM S r) (h' : ToksM S r') : r = r' := by
 unfold ToksM at h h'
 by_cases h8 : 8000 < S.size
 ·rw [if_pos h8] at h h'; rw [h, h']
 ·rw [if_neg h8] at h h'; exact h.det h'
end Go.Proofs.Ytcjgagmcnmmfoaa

