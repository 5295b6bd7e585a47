/-
  Package scan: the cutter in memory; fail, put. Condition: a source of at most 8000 bytes.
-/
import Derived.Test.YtgonekmmbeedeaaScanW
import Derived.Test.YtgonekmmbeedeaaRow
import Derived.Test.YtgonekmmbeedeaaApp
import Derived.Deep.QuietTactic
import Derived.BigQuiet
import Derived.Deep.DeepCutAuto
import Derived.Test.YtgonekmmbeedeaaRegF
import Derived.Test.YtgonekmmbeedeaaRegionW
namespace Go.Proofs.Ytgonekmmbeedeaa
open Go.RowKit
set_option linter.unusedVariables false
set_option linter.unusedSimpArgs false

def CuCells (S : ByteArray) (c : CutM) (ov : Value) : Array Value := #[.string S, .int .i64 (c.pos : Int), .int .i64 c.line, .int .i64 c.col, ov]
/-- The cutter at block cb. -/
structure Cut (w : World) (cb : Nat) (S : ByteArray) (c : CutM) (ov : Value) : Prop where
  blk : w.heap[cb]? = some (.cells (CuCells S c ov) 117 (0, 0))
  out : OwnL CeToken 4 119 w cb ov c.out
section
variable {w w' : World} {cb : Nat} {S : ByteArray} {c : CutM} {ov : Value}
theorem Cut.kp (h : Cut w cb S c ov) (hk : Kp w w') : Cut w' cb S c ov := ⟨(hk.block cb (blk_lt h.blk)).trans h.blk, h.out.kp CeToken.kp hk⟩
theorem Cut.lt (h : Cut w cb S c ov) : cb < w.heap.size := blk_lt h.blk
theorem Cut.fz (h : Cut w cb S c ov) (o : Nat) : w.frozen? ⟨cb, o, none⟩ = false := blk_free h.blk
theorem Cut.c0 (h : Cut w cb S c ov) : w.cell? ⟨cb, 0, none⟩ = some (.string S) := blk_cell h.blk rfl
theorem Cut.c1 (h : Cut w cb S c ov) : w.cell? ⟨cb, 1, none⟩ = some (.int .i64 (c.pos : Int)) := blk_cell h.blk rfl
theorem Cut.c2 (h : Cut w cb S c ov) : w.cell? ⟨cb, 2, none⟩ = some (.int .i64 c.line) := blk_cell h.blk rfl
theorem Cut.c3 (h : Cut w cb S c ov) : w.cell? ⟨cb, 3, none⟩ = some (.int .i64 c.col) := blk_cell h.blk rfl
theorem Cut.c4 (h : Cut w cb S c ov) : w.cell? ⟨cb, 4, none⟩ = some ov := blk_cell h.blk rfl
theorem Cut.len (h : Cut w cb S c ov) : ∃ A cap, ov = .slice A c.out.length cap := by
  obtain ⟨A, cap, e, _⟩ := (OwnL.rd h.out).form
  exact ⟨A, cap, e⟩
theorem OwnL.touchT {α : Type} {el : List Value → α → Prop} {sz base : Nat} {e T : TypeId} {v : Value} {l : List α} (h : OwnL (fun _ => el) sz e w base v l) (ht : Touch T w w') (hn : e ≠ T) : OwnL (fun _ => el) sz e w' base v l := by
  obtain ⟨xs, h1, h2⟩ := h
  exact ⟨xs, ownsRow_touch hn h1 ht, Chunk.mono (w := w) (w' := w') (fun _ _ h => h) h2⟩
theorem tok_touch {base : Nat} {T : TypeId} {v : Value} {l : List TokenM} (h : OwnL CeToken 4 119 w base v l) (ht : Touch T w w') (hn : 119 ≠ T) : OwnL CeToken 4 119 w' base v l := by
  obtain ⟨xs, h1, h2⟩ := h
  exact ⟨xs, ownsRow_touch hn h1 ht, Chunk.mono (w := w) (w' := w') (fun _ _ h => h) h2⟩
theorem Cut.at_pos (h : Cut w cb S c ov) (p : Nat) : Cut (w.setCell ⟨cb, 1, none⟩ (.int .i64 (p : Int))) cb S { c with pos := p } ov := ⟨blk_set h.blk _, tok_touch h.out (rowTouch h.blk _) (by decide)⟩
theorem Cut.at_line (h : Cut w cb S c ov) (p : Int) : Cut (w.setCell ⟨cb, 2, none⟩ (.int .i64 p)) cb S { c with line := p } ov := ⟨blk_set h.blk _, tok_touch h.out (rowTouch h.blk _) (by decide)⟩
theorem Cut.at_col (h : Cut w cb S c ov) (p : Int) : Cut (w.setCell ⟨cb, 3, none⟩ (.int .i64 p)) cb S { c with col := p } ov := ⟨blk_set h.blk _, tok_touch h.out (rowTouch h.blk _) (by decide)⟩
theorem Cut.at_out (h : Cut w cb S c ov) (ht : Touch 119 w w') {ov2 : Value} {l : List TokenM} (ho : OwnL CeToken 4 119 w' cb ov2 l) : Cut (w'.setCell ⟨cb, 4, none⟩ ov2) cb S { c with out := l } ov2 := by
  have hb := ht.2 cb _ h.blk (fun cs fr e => by injection e with _ e _; exact absurd e (by decide))
  exact ⟨blk_set hb _, tok_touch ho (rowTouch hb _) (by decide)⟩
end
def CutS (w : World) (cb : Nat) (S : ByteArray) (c : CutM) : Prop := (∃ ov, Cut w cb S c ov) ∧ CBd S c
def stopE (e : Err) : Ending := .panicked [{ v := .iface 114 (.agg #[.int .i64 e.1, .int .i64 e.2.1, .int .i64 e.2.2]), recovered := false }]
/-- What comes of a call that cuts. -/
def CutP (w : World) (cb : Nat) (S : ByteArray) (r : Except Err CutM) (e : Ending) (w' : World) : Prop :=
  ((∃ c, r = .ok c ∧ e = .returned (.tuple #[]) ∧ CutS w' cb S c) ∨ (∃ er, r = .error er ∧ e = stopE er)) ∧ Below cb w w'
set_option maxRecDepth 20000 in
set_option maxHeartbeats 4000000 in
theorem fail_any (w : World) (cb : Nat) (S : ByteArray) (c : CutM) (h : CutS w cb S c) (k : Int) : Calls Try.prog 83 #[.pointer (some ⟨cb, 0, none⟩), .int .i64 k] w fun e w' => e = stopE (k, c.line, c.col) ∧ Kp w w' := by
  obtain ⟨⟨ov, h⟩, _⟩ := h
  have H := hid h
  go_enter Try.func83, Try.ntmps83
  refine wp_region_last 12 [[], [], [1], [2], [3], [], [5], [6], [7], [0, 4, 8], [9], [10], [11]] (fun u => Kp w u)
    [fun (y : Value) (u : World) => y = (.int .i64 k : Value),
     fun (y : Value) (u : World) => y = (.pointer (some ⟨cb, 0, none⟩) : Value),
     fun (y : Value) (u : World) => y = (.pointer (some ⟨cb, 0, none⟩) : Value),
     fun (y : Value) (u : World) => y = (.pointer (some ⟨cb, 2, none⟩) : Value),
     fun (y : Value) (u : World) => y = (.int .i64 c.line : Value),
     fun (y : Value) (u : World) => y = (.pointer (some ⟨cb, 0, none⟩) : Value),
     fun (y : Value) (u : World) => y = (.pointer (some ⟨cb, 0, none⟩) : Value),
     fun (y : Value) (u : World) => y = (.pointer (some ⟨cb, 3, none⟩) : Value),
     fun (y : Value) (u : World) => y = (.int .i64 c.col : Value),
     fun (y : Value) (u : World) => y = (.agg #[.int .i64 k, .int .i64 c.line, .int .i64 c.col] : Value),
     fun (y : Value) (u : World) => y = (.agg #[.int .i64 k, .int .i64 c.line, .int .i64 c.col] : Value),
     fun (y : Value) (u : World) => y = (.iface 114 (.agg #[.int .i64 k, .int .i64 c.line, .int .i64 c.col]) : Value)]
    (by kernel_rfl) (by kernel_rfl) (by kernel_rfl) (by kernel_rfl) (by kernel_rfl) (by kernel_rfl) ((Kp.refl _).drew) (fun _ _ hk h => h.trans hk) ⟨fun _ _ _ _ h => h, fun _ _ _ _ h => h, fun _ _ _ _ h => h, fun _ _ _ _ h => h, fun _ _ _ _ h => h, fun _ _ _ _ h => h, fun _ _ _ _ h => h, fun _ _ _ _ h => h, fun _ _ _ _ h => h, fun _ _ _ _ h => h, fun _ _ _ _ h => h, fun _ _ _ _ h => h, trivial⟩ ⟨?sb0, ?sb1, ?sb2, ?sb3, ?sb4, ?sb5, ?sb6, ?sb7, ?sb8, ?sb9, ?sb10, ?sb11, trivial⟩ ⟨?hEb, trivial⟩
  case sb0 =>
    intro x u hg hd K hK
    clear hd
    refine ⟨?_⟩
    simp only [putsFrom, Act.put, List.setIfInBounds_toArray, List.set_cons_zero, List.set_cons_succ, Nat.reduceAdd] at hK ⊢
    go_simp
    exact hK.out _ _ (Kp.refl _) rfl
  case sb1 =>
    intro x u hg hd K hK
    clear hd
    refine ⟨?_⟩
    simp only [putsFrom, Act.put, List.setIfInBounds_toArray, List.set_cons_zero, List.set_cons_succ, Nat.reduceAdd] at hK ⊢
    go_simp
    exact hK.out _ _ (Kp.refl _) rfl
  case sb2 =>
    intro x u hg hd K hK
    have d1 : (x 1) = .pointer (some ⟨cb, 0, none⟩) := And.left hd
    clear hd
    refine ⟨?_⟩
    simp only [putsFrom, Act.put, List.setIfInBounds_toArray, List.set_cons_zero, List.set_cons_succ, Nat.reduceAdd, d1] at hK ⊢
    go_simp
    exact hK.out _ _ (Kp.refl _) rfl
  case sb3 =>
    intro x u hg hd K hK
    have d2 : (x 2) = .pointer (some ⟨cb, 0, none⟩) := And.left hd
    clear hd
    refine ⟨?_⟩
    simp only [putsFrom, Act.put, List.setIfInBounds_toArray, List.set_cons_zero, List.set_cons_succ, Nat.reduceAdd, d2] at hK ⊢
    go_simp
    exact hK.out _ _ (Kp.refl _) rfl
  case sb4 =>
    intro x u hg hd K hK
    have d3 : (x 3) = .pointer (some ⟨cb, 2, none⟩) := And.left hd
    clear hd
    have q0 := cell_kp hg H.out.lt H.out.c2
    refine ⟨?_⟩
    simp only [putsFrom, Act.put, List.setIfInBounds_toArray, List.set_cons_zero, List.set_cons_succ, Nat.reduceAdd, d3] at hK ⊢
    go_simp
    exact hK.out _ _ (Kp.refl _) rfl
  case sb5 =>
    intro x u hg hd K hK
    clear hd
    refine ⟨?_⟩
    simp only [putsFrom, Act.put, List.setIfInBounds_toArray, List.set_cons_zero, List.set_cons_succ, Nat.reduceAdd] at hK ⊢
    go_simp
    exact hK.out _ _ (Kp.refl _) rfl
  case sb6 =>
    intro x u hg hd K hK
    have d5 : (x 5) = .pointer (some ⟨cb, 0, none⟩) := And.left hd
    clear hd
    refine ⟨?_⟩
    simp only [putsFrom, Act.put, List.setIfInBounds_toArray, List.set_cons_zero, List.set_cons_succ, Nat.reduceAdd, d5] at hK ⊢
    go_simp
    exact hK.out _ _ (Kp.refl _) rfl
  case sb7 =>
    intro x u hg hd K hK
    have d6 : (x 6) = .pointer (some ⟨cb, 0, none⟩) := And.left hd
    clear hd
    refine ⟨?_⟩
    simp only [putsFrom, Act.put, List.setIfInBounds_toArray, List.set_cons_zero, List.set_cons_succ, Nat.reduceAdd, d6] at hK ⊢
    go_simp
    exact hK.out _ _ (Kp.refl _) rfl
  case sb8 =>
    intro x u hg hd K hK
    have d7 : (x 7) = .pointer (some ⟨cb, 3, none⟩) := And.left hd
    clear hd
    have q0 := cell_kp hg H.out.lt H.out.c3
    refine ⟨?_⟩
    simp only [putsFrom, Act.put, List.setIfInBounds_toArray, List.set_cons_zero, List.set_cons_succ, Nat.reduceAdd, d7] at hK ⊢
    go_simp
    exact hK.out _ _ (Kp.refl _) rfl
  case sb9 =>
    intro x u hg hd K hK
    have d0 : (x 0) = .int .i64 k := And.left hd
    have d4 : (x 4) = .int .i64 c.line := And.left (And.right hd)
    have d8 : (x 8) = .int .i64 c.col := And.left (And.right (And.right hd))
    clear hd
    refine ⟨?_⟩
    simp only [putsFrom, Act.put, List.setIfInBounds_toArray, List.set_cons_zero, List.set_cons_succ, Nat.reduceAdd, d0, d4, d8] at hK ⊢
    go_simp
    exact hK.out _ _ (Kp.refl _) rfl
  case sb10 =>
    intro x u hg hd K hK
    have d9 : (x 9) = .agg #[.int .i64 k, .int .i64 c.line, .int .i64 c.col] := And.left hd
    clear hd
    refine ⟨?_⟩
    simp only [putsFrom, Act.put, List.setIfInBounds_toArray, List.set_cons_zero, List.set_cons_succ, Nat.reduceAdd, d9] at hK ⊢
    go_simp
    exact hK.out _ _ (Kp.refl _) rfl
  case sb11 =>
    intro x u hg hd K hK
    have d10 : (x 10) = .agg #[.int .i64 k, .int .i64 c.line, .int .i64 c.col] := And.left hd
    clear hd
    refine ⟨?_⟩
    simp only [putsFrom, Act.put, List.setIfInBounds_toArray, List.set_cons_zero, List.set_cons_succ, Nat.reduceAdd, d10] at hK ⊢
    go_simp
    exact hK.out _ _ (Kp.refl _) rfl
  intro x u hg he K hK
  have d0 : (x 0) = .int .i64 k := And.left he
  have d1 : (x 1) = .pointer (some ⟨cb, 0, none⟩) := And.left (And.right he)
  have d2 : (x 2) = .pointer (some ⟨cb, 0, none⟩) := And.left (And.right (And.right he))
  have d3 : (x 3) = .pointer (some ⟨cb, 2, none⟩) := And.left (And.right (And.right (And.right he)))
  have d4 : (x 4) = .int .i64 c.line := And.left (And.right (And.right (And.right (And.right he))))
  have d5 : (x 5) = .pointer (some ⟨cb, 0, none⟩) := And.left (And.right (And.right (And.right (And.right (And.right he)))))
  have d6 : (x 6) = .pointer (some ⟨cb, 0, none⟩) := And.left (And.right (And.right (And.right (And.right (And.right (And.right he))))))
  have d7 : (x 7) = .pointer (some ⟨cb, 3, none⟩) := And.left (And.right (And.right (And.right (And.right (And.right (And.right (And.right he)))))))
  have d8 : (x 8) = .int .i64 c.col := And.left (And.right (And.right (And.right (And.right (And.right (And.right (And.right (And.right he))))))))
  have d9 : (x 9) = .agg #[.int .i64 k, .int .i64 c.line, .int .i64 c.col] := And.left (And.right (And.right (And.right (And.right (And.right (And.right (And.right (And.right (And.right he)))))))))
  have d10 : (x 10) = .agg #[.int .i64 k, .int .i64 c.line, .int .i64 c.col] := And.left (And.right (And.right (And.right (And.right (And.right (And.right (And.right (And.right (And.right (And.right he))))))))))
  have d11 : (x 11) = .iface 114 (.agg #[.int .i64 k, .int .i64 c.line, .int .i64 c.col]) := And.left (And.right (And.right (And.right (And.right (And.right (And.right (And.right (And.right (And.right (And.right (And.right he)))))))))))
  clear he
  refine ⟨?_⟩
  simp only [putsFrom, Act.put, List.setIfInBounds_toArray, List.set_cons_zero, List.set_cons_succ, Nat.reduceAdd, d0, d1, d2, d3, d4, d5, d6, d7, d8, d9, d10, d11] at hK ⊢
  go_simp
  refine ⟨rfl, ?_⟩
  clear hK
  clear d0 d1 d2 d3 d4 d5 d6 d7 d8 d9 d10 d11
  exact ⟨rfl, hg⟩
theorem putM_bd {S : ByteArray} {c c' : CutM} {k : Int} {t : ByteArray} {n : Nat} (h : CBd S c) (hn : c.pos + n ≤ S.size) (hf : c.out.length ≠ 2000) : putM c k t n = .ok { c with pos := c.pos + n, col := c.col + n, out := c.out ++ [⟨k, t, c.line, c.col⟩] } ∧ CBd S { c with pos := c.pos + n, col := c.col + n, out := c.out ++ [⟨k, t, c.line, c.col⟩] } := by
  have e : putM c k t n = .ok { c with pos := c.pos + n, col := c.col + n, out := c.out ++ [⟨k, t, c.line, c.col⟩] } := by unfold putM; rw [if_neg hf]
  exact ⟨e, h.put hn e⟩
set_option maxRecDepth 20000 in
set_option maxHeartbeats 4000000 in
theorem put_any (w : World) (cb : Nat) (S : ByteArray) (c : CutM) (h : CutS w cb S c) (k : Int) (hk : okI k) (t : ByteArray) (ht : t.size ≤ 140737488351232) (n : Nat) (hn : c.pos + n ≤ S.size) :
    Calls Try.prog 81 #[.pointer (some ⟨cb, 0, none⟩), .int .i64 k, .string t, .int .i64 (n : Int)] w (CutP w cb S (putM c k t n)) := by
  have HC := hid h
  obtain ⟨⟨ov, h⟩, bd⟩ := h
  have H := hid h; have BD := hid bd
  obtain ⟨A, cap, rfl⟩ := h.len
  have c4 := h.c4
  have hlt := h.lt
  by_cases hf : c.out.length = 2000
  · have t1 : ((c.out.length : Int) == 2000) = true := by rw [beq_iff_eq]; omega
    have HF := hid (show putM c k t n = .error (15, c.line, c.col) by unfold putM; rw [if_pos hf])
    clear h bd hf hn
    go_enter Try.func81, Try.ntmps81
    go_wp2_with (go_at_call 83; go_must (refine (fail_any _ cb S c HC.out 15).mono ?_); rintro e w1 ⟨he, hk1⟩; unfold stopE at he; subst he)
    exact ⟨rfl, .inr ⟨_, HF.out, rfl⟩, Below.mono hk1 (Nat.le_of_lt H.out.lt)⟩
  · have t1 : ((c.out.length : Int) == 2000) = false := by rw [beq_eq_false_iff_ne]; omega
    obtain ⟨hp, hb2⟩ := putM_bd (c' := c) (k := k) (t := t) bd hn hf
    have HP := hid hp; have HB2 := hid hb2
    have hge : cb ≤ w.heap.size := Nat.le_of_lt hlt
    have HGE := hid hge
    obtain ⟨xs, hxs, hch⟩ := h.out
    have HXS := hid hxs; have HCH := hid hch
    have BDR := hid (show ∀ g, (Value.slice A c.out.length cap).ownBlock = some g → g < w.heap.size from fun g hg => (World.ownsRow.lt hxs g hg).2)
    have hol := bd.out
    have B1 := hid (show c.out.length + 1 ≤ maxLen by unfold maxLen; omega)
    have B2 := hid (show (c.out.length + 1) * 40 ≤ 140737488355328 by omega)
    have OKT := hid (show okI k ∧ t.size ≤ 140737488351232 ∧ okI c.line ∧ okI c.col from ⟨hk, ht, by have := bd.l1; have := bd.l2; have := bd.pos; have := bd.size; unfold okI; omega, by have := bd.c1; have := bd.c2; have := bd.pos; have := bd.size; unfold okI; omega⟩)
    obtain ⟨p2, hp2⟩ : ∃ p2, c.pos + n = p2 := ⟨_, rfl⟩
    obtain ⟨q2, hq2⟩ : ∃ q2, c.col + (n : Int) = q2 := ⟨_, rfl⟩
    have j1 : IntKind.i64.wrap ((c.pos : Int) + (n : Int)) = (p2 : Int) := by rw [IntKind.wrap_i64]; have := bd.size; omega
    have j2 : IntKind.i64.wrap (c.col + (n : Int)) = q2 := by rw [IntKind.wrap_i64]; have := bd.size; have := bd.c1; have := bd.c2; omega
    rw [hp2, hq2] at HP HB2
    clear h bd hxs hch hol hf hn hp hb2 hp2 hq2 hk ht
    go_enter Try.func81, Try.ntmps81
    go_upto_region 2 with fail
    clear c4
    refine wp_region_phase [17, 20] [(0, 1), (0, 0), (0, 0), (0, 0), (0, 0), (0, 0), (0, 0), (0, 0), (0, 0), (0, 0), (0, 0), (0, 0), (0, 0), (0, 0), (0, 0), (0, 0), (0, 0), (0, 0), (0, 1), (0, 1), (0, 0)] (KpF w.heap.size) [[], [], [1], [2], [3], [], [], [], [7], [8], [9], [], [11], [12], [13], [5, 6, 10, 14], [15], [4, 16], [0], [18], [17, 19]]
      (fun (p : Nat) (x : Nat → Value) (u : World) => match p with | 0 => Kp w u | 1 => Touch 119 w u ∧ OwnL CeToken 4 119 u cb (x 17) (c.out ++ [⟨k, t, c.line, c.col⟩]) ∧ Below cb w u | _ => (∃ ov2, Cut u cb S { c with out := c.out ++ [⟨k, t, c.line, c.col⟩] } ov2) ∧ Below cb w u)
      [fun (y : Value) (u : World) => y = (.pointer (some ⟨cb, 0, none⟩) : Value),
       fun (y : Value) (u : World) => y = (.pointer (some ⟨cb, 0, none⟩) : Value),
       fun (y : Value) (u : World) => y = (.pointer (some ⟨cb, 0, none⟩) : Value),
       fun (y : Value) (u : World) => y = (.pointer (some ⟨cb, 4, none⟩) : Value),
       fun (y : Value) (u : World) => y = (.slice A c.out.length cap : Value),
       fun (y : Value) (u : World) => y = (.int .i64 k : Value),
       fun (y : Value) (u : World) => y = (.string t : Value),
       fun (y : Value) (u : World) => y = (.pointer (some ⟨cb, 0, none⟩) : Value),
       fun (y : Value) (u : World) => y = (.pointer (some ⟨cb, 0, none⟩) : Value),
       fun (y : Value) (u : World) => y = (.pointer (some ⟨cb, 2, none⟩) : Value),
       fun (y : Value) (u : World) => y = (.int .i64 c.line : Value),
       fun (y : Value) (u : World) => y = (.pointer (some ⟨cb, 0, none⟩) : Value),
       fun (y : Value) (u : World) => y = (.pointer (some ⟨cb, 0, none⟩) : Value),
       fun (y : Value) (u : World) => y = (.pointer (some ⟨cb, 3, none⟩) : Value),
       fun (y : Value) (u : World) => y = (.int .i64 c.col : Value),
       fun (y : Value) (u : World) => y = (.agg #[.int .i64 k, .string t, .int .i64 c.line, .int .i64 c.col] : Value),
       fun (y : Value) (u : World) => LitAt w.heap.size 119 #[.int .i64 k, .string t, .int .i64 c.line, .int .i64 c.col] y u,
       fun (y : Value) (u : World) => True,
       fun (y : Value) (u : World) => y = (.pointer (some ⟨cb, 0, none⟩) : Value),
       fun (y : Value) (u : World) => y = (.pointer (some ⟨cb, 4, none⟩) : Value),
       fun (y : Value) (u : World) => True]
      (by kernel_rfl) (by kernel_rfl) (by kernel_rfl) (by kernel_rfl) (by kernel_rfl) (by kernel_rfl) (fun _ _ hk => KpF.of_kp hk) ((Kp.refl w).drew) ?hKc ?hXc ⟨fun _ _ _ _ h => h, fun _ _ _ _ h => h, fun _ _ _ _ h => h, fun _ _ _ _ h => h, fun _ _ _ _ h => h, fun _ _ _ _ h => h, fun _ _ _ _ h => h, fun _ _ _ _ h => h, fun _ _ _ _ h => h, fun _ _ _ _ h => h, fun _ _ _ _ h => h, fun _ _ _ _ h => h, fun _ _ _ _ h => h, fun _ _ _ _ h => h, fun _ _ _ _ h => h, fun _ _ _ _ h => h, fun _ _ _ hk h => h.keep hk, fun _ _ _ _ _ => trivial, fun _ _ _ _ h => h, fun _ _ _ _ h => h, fun _ _ _ _ _ => trivial, trivial⟩ ⟨?sc0, ?sc1, ?sc2, ?sc3, ?sc4, ?sc5, ?sc6, ?sc7, ?sc8, ?sc9, ?sc10, ?sc11, ?sc12, ?sc13, ?sc14, ?sc15, ?sc16, ?sc17, ?sc18, ?sc19, ?sc20, trivial⟩ ?hEc
    case hKc =>
      intro p x w w' hk h
      rcases p with _ | _ | p
      · exact h.trans hk
      · exact ⟨h.1.trans (Touch.of_kp hk), h.2.1.kp CeToken.kp hk, Below.trans h.2.2 (Below.mono hk (Nat.le_trans HGE.out h.2.2.size))⟩
      · exact ⟨by obtain ⟨o2, h1⟩ := h.1; exact ⟨o2, h1.kp hk⟩, Below.trans h.2 (Below.mono hk (Nat.le_trans HGE.out h.2.size))⟩
    case hXc =>
      intro p x i v w hi h
      have e0 : upd x i v 17 = x 17 := if_neg (fun hh => hi (by rw [← hh]; decide))
      have e1 : upd x i v 20 = x 20 := if_neg (fun hh => hi (by rw [← hh]; decide))
      rcases p with _ | _ | p
      · first | exact h | (simp only [e0, e1]; exact h)
      · first | exact h | (simp only [e0, e1]; exact h)
      · first | exact h | (simp only [e0, e1]; exact h)
    case sc0 =>
      refine OpStepQ.off 0 1 (by kernel_rfl) (by kernel_rfl) ?_
      intro x u p hp hg hd K hK
      clear hd
      refine ⟨?_⟩
      simp only [putsFrom, Act.put, List.setIfInBounds_toArray, List.set_cons_zero, List.set_cons_succ, Nat.reduceAdd] at hK ⊢
      go_simp
      exact hK.out _ _ (Kp.refl _) rfl
    case sc1 =>
      refine OpStepQ.off 0 0 (by kernel_rfl) (by kernel_rfl) ?_
      intro x u p hp hg hd K hK
      obtain rfl : p = 0 := by omega
      change Kp w u at hg
      clear hd
      refine ⟨?_⟩
      simp only [putsFrom, Act.put, List.setIfInBounds_toArray, List.set_cons_zero, List.set_cons_succ, Nat.reduceAdd] at hK ⊢
      go_simp
      exact hK.out _ _ (Kp.refl _) rfl
    case sc2 =>
      refine OpStepQ.off 0 0 (by kernel_rfl) (by kernel_rfl) ?_
      intro x u p hp hg hd K hK
      obtain rfl : p = 0 := by omega
      change Kp w u at hg
      have d1 : (x 1) = .pointer (some ⟨cb, 0, none⟩) := And.left hd
      clear hd
      refine ⟨?_⟩
      simp only [putsFrom, Act.put, List.setIfInBounds_toArray, List.set_cons_zero, List.set_cons_succ, Nat.reduceAdd, d1] at hK ⊢
      go_simp
      exact hK.out _ _ (Kp.refl _) rfl
    case sc3 =>
      refine OpStepQ.off 0 0 (by kernel_rfl) (by kernel_rfl) ?_
      intro x u p hp hg hd K hK
      obtain rfl : p = 0 := by omega
      change Kp w u at hg
      have d2 : (x 2) = .pointer (some ⟨cb, 0, none⟩) := And.left hd
      clear hd
      refine ⟨?_⟩
      simp only [putsFrom, Act.put, List.setIfInBounds_toArray, List.set_cons_zero, List.set_cons_succ, Nat.reduceAdd, d2] at hK ⊢
      go_simp
      exact hK.out _ _ (Kp.refl _) rfl
    case sc4 =>
      refine OpStepQ.off 0 0 (by kernel_rfl) (by kernel_rfl) ?_
      intro x u p hp hg hd K hK
      obtain rfl : p = 0 := by omega
      change Kp w u at hg
      have d3 : (x 3) = .pointer (some ⟨cb, 4, none⟩) := And.left hd
      clear hd
      have q9 := cell_kp hg H.out.lt H.out.c4
      refine ⟨?_⟩
      simp only [putsFrom, Act.put, List.setIfInBounds_toArray, List.set_cons_zero, List.set_cons_succ, Nat.reduceAdd, d3] at hK ⊢
      go_simp
      exact hK.out _ _ (Kp.refl _) rfl
    case sc5 =>
      refine OpStepQ.off 0 0 (by kernel_rfl) (by kernel_rfl) ?_
      intro x u p hp hg hd K hK
      obtain rfl : p = 0 := by omega
      change Kp w u at hg
      clear hd
      refine ⟨?_⟩
      simp only [putsFrom, Act.put, List.setIfInBounds_toArray, List.set_cons_zero, List.set_cons_succ, Nat.reduceAdd] at hK ⊢
      go_simp
      exact hK.out _ _ (Kp.refl _) rfl
    case sc6 =>
      refine OpStepQ.off 0 0 (by kernel_rfl) (by kernel_rfl) ?_
      intro x u p hp hg hd K hK
      obtain rfl : p = 0 := by omega
      change Kp w u at hg
      clear hd
      refine ⟨?_⟩
      simp only [putsFrom, Act.put, List.setIfInBounds_toArray, List.set_cons_zero, List.set_cons_succ, Nat.reduceAdd] at hK ⊢
      go_simp
      exact hK.out _ _ (Kp.refl _) rfl
    case sc7 =>
      refine OpStepQ.off 0 0 (by kernel_rfl) (by kernel_rfl) ?_
      intro x u p hp hg hd K hK
      obtain rfl : p = 0 := by omega
      change Kp w u at hg
      clear hd
      refine ⟨?_⟩
      simp only [putsFrom, Act.put, List.setIfInBounds_toArray, List.set_cons_zero, List.set_cons_succ, Nat.reduceAdd] at hK ⊢
      go_simp
      exact hK.out _ _ (Kp.refl _) rfl
    case sc8 =>
      refine OpStepQ.off 0 0 (by kernel_rfl) (by kernel_rfl) ?_
      intro x u p hp hg hd K hK
      obtain rfl : p = 0 := by omega
      change Kp w u at hg
      have d7 : (x 7) = .pointer (some ⟨cb, 0, none⟩) := And.left hd
      clear hd
      refine ⟨?_⟩
      simp only [putsFrom, Act.put, List.setIfInBounds_toArray, List.set_cons_zero, List.set_cons_succ, Nat.reduceAdd, d7] at hK ⊢
      go_simp
      exact hK.out _ _ (Kp.refl _) rfl
    case sc9 =>
      refine OpStepQ.off 0 0 (by kernel_rfl) (by kernel_rfl) ?_
      intro x u p hp hg hd K hK
      obtain rfl : p = 0 := by omega
      change Kp w u at hg
      have d8 : (x 8) = .pointer (some ⟨cb, 0, none⟩) := And.left hd
      clear hd
      refine ⟨?_⟩
      simp only [putsFrom, Act.put, List.setIfInBounds_toArray, List.set_cons_zero, List.set_cons_succ, Nat.reduceAdd, d8] at hK ⊢
      go_simp
      exact hK.out _ _ (Kp.refl _) rfl
    case sc10 =>
      refine OpStepQ.off 0 0 (by kernel_rfl) (by kernel_rfl) ?_
      intro x u p hp hg hd K hK
      obtain rfl : p = 0 := by omega
      change Kp w u at hg
      have d9 : (x 9) = .pointer (some ⟨cb, 2, none⟩) := And.left hd
      clear hd
      have q9 := cell_kp hg H.out.lt H.out.c2
      refine ⟨?_⟩
      simp only [putsFrom, Act.put, List.setIfInBounds_toArray, List.set_cons_zero, List.set_cons_succ, Nat.reduceAdd, d9] at hK ⊢
      go_simp
      exact hK.out _ _ (Kp.refl _) rfl
    case sc11 =>
      refine OpStepQ.off 0 0 (by kernel_rfl) (by kernel_rfl) ?_
      intro x u p hp hg hd K hK
      obtain rfl : p = 0 := by omega
      change Kp w u at hg
      clear hd
      refine ⟨?_⟩
      simp only [putsFrom, Act.put, List.setIfInBounds_toArray, List.set_cons_zero, List.set_cons_succ, Nat.reduceAdd] at hK ⊢
      go_simp
      exact hK.out _ _ (Kp.refl _) rfl
    case sc12 =>
      refine OpStepQ.off 0 0 (by kernel_rfl) (by kernel_rfl) ?_
      intro x u p hp hg hd K hK
      obtain rfl : p = 0 := by omega
      change Kp w u at hg
      have d11 : (x 11) = .pointer (some ⟨cb, 0, none⟩) := And.left hd
      clear hd
      refine ⟨?_⟩
      simp only [putsFrom, Act.put, List.setIfInBounds_toArray, List.set_cons_zero, List.set_cons_succ, Nat.reduceAdd, d11] at hK ⊢
      go_simp
      exact hK.out _ _ (Kp.refl _) rfl
    case sc13 =>
      refine OpStepQ.off 0 0 (by kernel_rfl) (by kernel_rfl) ?_
      intro x u p hp hg hd K hK
      obtain rfl : p = 0 := by omega
      change Kp w u at hg
      have d12 : (x 12) = .pointer (some ⟨cb, 0, none⟩) := And.left hd
      clear hd
      refine ⟨?_⟩
      simp only [putsFrom, Act.put, List.setIfInBounds_toArray, List.set_cons_zero, List.set_cons_succ, Nat.reduceAdd, d12] at hK ⊢
      go_simp
      exact hK.out _ _ (Kp.refl _) rfl
    case sc14 =>
      refine OpStepQ.off 0 0 (by kernel_rfl) (by kernel_rfl) ?_
      intro x u p hp hg hd K hK
      obtain rfl : p = 0 := by omega
      change Kp w u at hg
      have d13 : (x 13) = .pointer (some ⟨cb, 3, none⟩) := And.left hd
      clear hd
      have q9 := cell_kp hg H.out.lt H.out.c3
      refine ⟨?_⟩
      simp only [putsFrom, Act.put, List.setIfInBounds_toArray, List.set_cons_zero, List.set_cons_succ, Nat.reduceAdd, d13] at hK ⊢
      go_simp
      exact hK.out _ _ (Kp.refl _) rfl
    case sc15 =>
      refine OpStepQ.off 0 0 (by kernel_rfl) (by kernel_rfl) ?_
      intro x u p hp hg hd K hK
      obtain rfl : p = 0 := by omega
      change Kp w u at hg
      have d5 : (x 5) = .int .i64 k := And.left hd
      have d6 : (x 6) = .string t := And.left (And.right hd)
      have d10 : (x 10) = .int .i64 c.line := And.left (And.right (And.right hd))
      have d14 : (x 14) = .int .i64 c.col := And.left (And.right (And.right (And.right hd)))
      clear hd
      refine ⟨?_⟩
      simp only [putsFrom, Act.put, List.setIfInBounds_toArray, List.set_cons_zero, List.set_cons_succ, Nat.reduceAdd, d5, d6, d10, d14] at hK ⊢
      go_simp
      exact hK.out _ _ (Kp.refl _) rfl
    case sc16 =>
      refine OpStepQ.off 0 0 (by kernel_rfl) (by kernel_rfl) ?_
      intro x u p hp hg hd K hK
      obtain rfl : p = 0 := by omega
      change Kp w u at hg
      have d15 : (x 15) = .agg #[.int .i64 k, .string t, .int .i64 c.line, .int .i64 c.col] := And.left hd
      clear hd
      refine ⟨?_⟩
      simp only [putsFrom, Act.put, List.setIfInBounds_toArray, List.set_cons_zero, List.set_cons_succ, Nat.reduceAdd, d15] at hK ⊢
      go_simp
      exact hK.out _ _ ((Kp.refl _).alloc _) ⟨_, rfl, hg.le, blk_new _ _⟩
    case sc17 =>
      refine OpStepQ.on 0 (by kernel_rfl) (by kernel_rfl) ?_
      intro x u hg hd K hK
      change Kp w u at hg
      have d4 : (x 4) = .slice A c.out.length cap := And.left hd
      have d16 : LitAt w.heap.size 119 #[.int .i64 k, .string t, .int .i64 c.line, .int .i64 c.col] (x 16) u := And.left (And.right hd)
      clear hd
      obtain ⟨b, e6, hb6, hlit⟩ := d16
      have hown : u.ownsRow cb 119 4 (.slice A c.out.length cap) c.out.length xs := ownsRow_keep HXS.out hg
      refine ⟨?_⟩
      simp only [putsFrom, Act.put, List.setIfInBounds_toArray, List.set_cons_zero, List.set_cons_succ, Nat.reduceAdd, d4, e6] at hK ⊢
      rw [if_pos (by simp [Region.wanted])]
      refine wp_appP elToken (.tmp 20) (.tmp 32) (by rfl) hown (by rfl) [.int .i64 k, .string t, .int .i64 c.line, .int .i64 c.col] _ 1 1 (by rfl) rfl (fun _ => ⟨_, rfl, lit_src hlit⟩) (by intro z hz; simp at hz; rcases hz with rfl | rfl | rfl | rfl <;> rfl) B1.out B2.out (Nat.le_trans HGE.out hg.le) ?_
      intro v' w' G1 G2 G3 G4
      have hT := Touch.of_grown hown G2
      refine hK.out v' w' (KpF.of_grown G2 BDR.out) ⟨(Touch.of_kp hg).trans hT, ?_, Below.trans (Below.mono hg HGE.out) G4⟩ trivial
      exact OwnL.snoc (by rfl) HCH.out (fun _ _ h => h) ⟨rfl, OKT.out⟩ rfl G1
    case sc18 =>
      refine OpStepQ.off 0 1 (by kernel_rfl) (by kernel_rfl) ?_
      intro x u p hp hg hd K hK
      have d0 : (x 0) = .pointer (some ⟨cb, 0, none⟩) := And.left hd
      clear hd
      refine ⟨?_⟩
      simp only [putsFrom, Act.put, List.setIfInBounds_toArray, List.set_cons_zero, List.set_cons_succ, Nat.reduceAdd, d0] at hK ⊢
      go_simp
      exact hK.out _ _ (Kp.refl _) rfl
    case sc19 =>
      refine OpStepQ.off 0 1 (by kernel_rfl) (by kernel_rfl) ?_
      intro x u p hp hg hd K hK
      have d18 : (x 18) = .pointer (some ⟨cb, 0, none⟩) := And.left hd
      clear hd
      refine ⟨?_⟩
      simp only [putsFrom, Act.put, List.setIfInBounds_toArray, List.set_cons_zero, List.set_cons_succ, Nat.reduceAdd, d18] at hK ⊢
      go_simp
      exact hK.out _ _ (Kp.refl _) rfl
    case sc20 =>
      refine OpStepQ.on 1 (by kernel_rfl) (by kernel_rfl) ?_
      intro x u hg hd K hK
      change Touch 119 w u ∧ OwnL CeToken 4 119 u cb (x 17) (c.out ++ [⟨k, t, c.line, c.col⟩]) ∧ Below cb w u at hg
      have d19 : (x 19) = .pointer (some ⟨cb, 4, none⟩) := And.left (And.right hd)
      clear hd
      obtain ⟨hg1', hg2', hg3'⟩ := hg
      obtain ⟨A7, c7, e7⟩ := own_form hg2'.choose_spec.1
      rw [show (c.out ++ [(⟨k, t, c.line, c.col⟩ : TokenM)]).length = c.out.length + 1 by simp] at e7
      have hbu := hg1'.2 cb _ H.out.blk (fun cs fr e => by injection e with _ e _; exact absurd e (by decide))
      have q9 : u.cell? ⟨cb, 4, none⟩ = some (.slice A c.out.length cap) := blk_cell hbu rfl
      have qf : u.frozen? ⟨cb, 4, none⟩ = false := blk_free hbu
      have HO2 := hid (H.out.at_out hg1' hg2')
      have HG4 := hid hg3'
      have e7' := hid e7
      clear hg1' hg2' hg3' hbu
      refine ⟨?_⟩
      simp only [putsFrom, Act.put, List.setIfInBounds_toArray, List.set_cons_zero, List.set_cons_succ, Nat.reduceAdd, d19, e7] at hK ⊢
      go_simp
      rw [e7'.out] at HO2
      exact hK.out undef _ (KpF.setCell hlt _) ⟨⟨_, HO2.out⟩, HG4.out.setCell (Nat.le_refl _) _⟩ trivial
    intro x u hg he
    have d0 : (x 0) = .pointer (some ⟨cb, 0, none⟩) := And.left he
    have d1 : (x 1) = .pointer (some ⟨cb, 0, none⟩) := And.left (And.right he)
    have d2 : (x 2) = .pointer (some ⟨cb, 0, none⟩) := And.left (And.right (And.right he))
    have d3 : (x 3) = .pointer (some ⟨cb, 4, none⟩) := And.left (And.right (And.right (And.right he)))
    have d4 : (x 4) = .slice A c.out.length cap := And.left (And.right (And.right (And.right (And.right he))))
    have d5 : (x 5) = .int .i64 k := And.left (And.right (And.right (And.right (And.right (And.right he)))))
    have d6 : (x 6) = .string t := And.left (And.right (And.right (And.right (And.right (And.right (And.right he))))))
    have d7 : (x 7) = .pointer (some ⟨cb, 0, none⟩) := And.left (And.right (And.right (And.right (And.right (And.right (And.right (And.right he)))))))
    have d8 : (x 8) = .pointer (some ⟨cb, 0, none⟩) := And.left (And.right (And.right (And.right (And.right (And.right (And.right (And.right (And.right he))))))))
    have d9 : (x 9) = .pointer (some ⟨cb, 2, none⟩) := And.left (And.right (And.right (And.right (And.right (And.right (And.right (And.right (And.right (And.right he)))))))))
    have d10 : (x 10) = .int .i64 c.line := And.left (And.right (And.right (And.right (And.right (And.right (And.right (And.right (And.right (And.right (And.right he))))))))))
    have d11 : (x 11) = .pointer (some ⟨cb, 0, none⟩) := And.left (And.right (And.right (And.right (And.right (And.right (And.right (And.right (And.right (And.right (And.right (And.right he)))))))))))
    have d12 : (x 12) = .pointer (some ⟨cb, 0, none⟩) := And.left (And.right (And.right (And.right (And.right (And.right (And.right (And.right (And.right (And.right (And.right (And.right (And.right he))))))))))))
    have d13 : (x 13) = .pointer (some ⟨cb, 3, none⟩) := And.left (And.right (And.right (And.right (And.right (And.right (And.right (And.right (And.right (And.right (And.right (And.right (And.right (And.right he)))))))))))))
    have d14 : (x 14) = .int .i64 c.col := And.left (And.right (And.right (And.right (And.right (And.right (And.right (And.right (And.right (And.right (And.right (And.right (And.right (And.right (And.right he))))))))))))))
    have d15 : (x 15) = .agg #[.int .i64 k, .string t, .int .i64 c.line, .int .i64 c.col] := And.left (And.right (And.right (And.right (And.right (And.right (And.right (And.right (And.right (And.right (And.right (And.right (And.right (And.right (And.right (And.right he)))))))))))))))
    have d16 : LitAt w.heap.size 119 #[.int .i64 k, .string t, .int .i64 c.line, .int .i64 c.col] (x 16) u := And.left (And.right (And.right (And.right (And.right (And.right (And.right (And.right (And.right (And.right (And.right (And.right (And.right (And.right (And.right (And.right (And.right he))))))))))))))))
    have d18 : (x 18) = .pointer (some ⟨cb, 0, none⟩) := And.left (And.right (And.right (And.right (And.right (And.right (And.right (And.right (And.right (And.right (And.right (And.right (And.right (And.right (And.right (And.right (And.right (And.right (And.right he))))))))))))))))))
    have d19 : (x 19) = .pointer (some ⟨cb, 4, none⟩) := And.left (And.right (And.right (And.right (And.right (And.right (And.right (And.right (And.right (And.right (And.right (And.right (And.right (And.right (And.right (And.right (And.right (And.right (And.right (And.right he)))))))))))))))))))
    clear he
    change (∃ ov2, Cut u cb S { c with out := c.out ++ [⟨k, t, c.line, c.col⟩] } ov2) ∧ Below cb w u at hg
    refine ⟨?_⟩
    simp only [putsFrom, Act.put, List.setIfInBounds_toArray, List.set_cons_zero, List.set_cons_succ, Nat.reduceAdd, d0, d1, d2, d3, d4, d5, d6, d7, d8, d9, d10, d11, d12, d13, d14, d15, d18, d19]
    clear d0 d1 d2 d3 d4 d5 d6 d7 d8 d9 d10 d11 d12 d13 d14 d15 d18 d19
    obtain ⟨⟨o2, hcu⟩, hbw⟩ := hg
    have HCU := hid hcu; have HBW := hid hbw
    have c1 := hcu.c1; have f1 := hcu.fz 1; have c3 := hcu.c3; have f3 := hcu.fz 3
    clear hcu hbw
    go_wp2
    first | go_end0 | refine bodyPost_ret (results_none rfl _ _ _) rfl ?_
    rw [HP.out]
    exact ⟨.inl ⟨_, rfl, rfl, ⟨_, (HCU.out.at_pos p2).at_col q2⟩, HB2.out⟩, (HBW.out.setCell (Nat.le_refl _) _).setCell (Nat.le_refl _) _⟩
end Go.Proofs.Ytgonekmmbeedeaa
