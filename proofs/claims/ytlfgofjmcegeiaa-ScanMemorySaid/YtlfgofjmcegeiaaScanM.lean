/-
  What the law ScanMemory needs beside the scanner's contracts: rows of tokens, written and copied. No condition.
-/
import Derived.Test.YtlfgofjmcegeiaaScanX
import Derived.Laws.CopyRow
import Derived.Laws.IdiomCopy
import Derived.Laws.CopyOwn
namespace Go.Proofs.Ytlfgofjmcegeiaa
open Go.RowKit
set_option linter.unusedVariables false
set_option linter.unusedSimpArgs false

theorem ne_tok (k l c : Int) (s : ByteArray) (w : World) : Sem.run Try.prog (binOp .neq 41 (.agg #[.int .i64 k, .string s, .int .i64 l, .int .i64 c]) (.agg #[.int .i64 k, .string s, .int .i64 l, .int .i64 c])) w = .ok (.bool false) w := by simp [go_sem]
theorem ne_spot (a b c : Int) (w : World) : Sem.run Try.prog (binOp .neq 36 (.agg #[.int .i64 a, .int .i64 b, .int .i64 c]) (.agg #[.int .i64 a, .int .i64 b, .int .i64 c])) w = .ok (.bool false) w := by simp [go_sem]
/-- Tokens, told by what it answers of the text alone. -/
theorem toks_fix (S : ByteArray) (hs : S.size ≤ 140737488351232) : ∃ (l : List TokenM) (e0 e1 e2 : Int), l.length ≤ 2000 ∧ ∀ w, Calls Try.prog 17 #[.string S] w fun e w' => (∃ v, e = .returned (.tuple #[v, .agg #[.int .i64 e0, .int .i64 e1, .int .i64 e2]]) ∧ OwnL CeToken 4 41 w' w.heap.size v l) ∧ Kp w w' := by
  have hr : ∃ r, ToksM S r := by
    unfold ToksM
    by_cases h8 : 8000 < S.size
    · exact ⟨_, by rw [if_pos h8]⟩
    · obtain ⟨r, hr⟩ := Runs.ex S.size cut0 (cut0_bd (S := S) (by omega)) (by simp [cut0])
      exact ⟨r, by rw [if_neg h8]; exact hr⟩
  obtain ⟨r, hr⟩ := hr
  cases r with
  | ok l =>
    refine ⟨l, 0, 0, 0, hr.placed.2.1, fun w => (toks_any w S hs).mono ?_⟩
    rintro e w' ⟨h1, h2⟩
    refine ⟨?_, h2⟩
    rcases h1 with ⟨l2, v, hT, h3, h4⟩ | ⟨er, hT, _⟩
    · have hd := hT.det hr
      injection hd with hd
      subst hd
      exact ⟨v, h3, h4⟩
    · have hd := hT.det hr
      cases hd
  | error er =>
    refine ⟨[], er.1, er.2.1, er.2.2, by simp, fun w => (toks_any w S hs).mono ?_⟩
    rintro e w' ⟨h1, h2⟩
    refine ⟨?_, h2⟩
    rcases h1 with ⟨l2, v, hT, h3, h4⟩ | ⟨er2, hT, _, _, h3⟩
    · have hd := hT.det hr
      cases hd
    · have hd := hT.det hr
      injection hd with hd
      subst hd
      exact ⟨.slice none 0 0, h3, OwnL.nil _ _ _ _ _⟩
/-- A row of tokens of the call's own, whatever it holds. -/
def TRow (w : World) (base : Nat) (v : Value) (n : Nat) : Prop := ∃ xs, w.ownsRow base 41 4 v n xs
theorem TRow.form {w : World} {base n : Nat} {v : Value} (h : TRow w base v n) : ∃ A c, v = .slice A n c := by
  obtain ⟨xs, h⟩ := h; exact own_form h
theorem TRow.at_ {w : World} {base n j : Nat} {v : Value} (h : TRow w base v n) (hj : j < n * 4) : ∃ g c y, v = .slice (some ⟨g, 0, none⟩) n c ∧ w.cell? ⟨g, j, none⟩ = some y ∧ w.frozen? ⟨g, j, none⟩ = false := by
  obtain ⟨xs, h⟩ := h
  obtain ⟨g, c, rfl, _⟩ := rowSome h (by omega)
  obtain ⟨h1, h2⟩ := rowAt h hj
  have hx := h.1
  exact ⟨g, c, _, rfl, h1.trans (List.getElem?_eq_getElem (by omega)), h2⟩
theorem TRow.set {w : World} {base n g c j : Nat} (h : TRow w base (.slice (some ⟨g, 0, none⟩) n c) n) (hj : j < n * 4) (u : Value) : TRow (w.setCell ⟨g, j, none⟩ u) base (.slice (some ⟨g, 0, none⟩) n c) n := by
  obtain ⟨xs, h⟩ := h
  exact ⟨_, rowSet h hj u⟩
theorem tokOne (w : World) : ∀ cs (a : TokenM), CeToken w cs a → ∀ u ∈ cs, u.oneCell' = true := by
  rintro cs a ⟨rfl, _⟩ u hu
  simp at hu
  rcases hu with rfl | rfl | rfl | rfl <;> rfl
theorem tok_inf : (Try.prog.info? 41).map (·.size) = some 4 := by kernel_rfl
/-- A row of tokens under a step that turns one other block. -/
theorem tok_kept {w w' : World} {base : Nat} {v : Value} {l : List TokenM} {row : Option Nat} (h : OwnL CeToken 4 41 w base v l) (hg : w.grownBy w' row) (hne : ∀ g, v.ownBlock = some g → some g ≠ row) : OwnL CeToken 4 41 w' base v l := by
  obtain ⟨xs, h1, h3⟩ := h
  refine ⟨xs, World.ownsRow.kept h1 hg ?_, Chunk.mono (w := w) (w' := w') (fun _ _ h => h) h3⟩
  cases hb : v.ownBlock with
  | none => exact .inl rfl
  | some g => exact .inr (hne g hb)
theorem copy_rows {P : Program} (w : World) (dT sT ty elem : TypeId) (s n g o dLen dCap : Nat) (a : Addr) (sLen sCap : Nat) (cur : Array Value) (t : TypeId) (cs : List Value)
    (hu : P.underlying dT = some (.slice elem)) (hs : (P.info? elem).map (·.size) = some s)
    (hg : w.heap[g]? = some (.cells cur t (0, 0))) (hn : Nat.min sLen dLen = n) (hl' : cs.length = n * s)
    (hsrc : ∀ j v, cs[j]? = some v → w.cell? (a.add j) = some v) (hfit : o + cs.length ≤ cur.size) (h1 : ∀ v ∈ cs, v.oneCell' = true) :
    (Builtin.copy_ #[dT, sT] ty #[.slice (some ⟨g, o, none⟩) dLen dCap, .slice (some a) sLen sCap]).run P w =
      .ok (goInt n) (w.setRow g (cur.toList.take o ++ cs ++ cur.toList.drop (o + cs.length)).toArray) := by
  have hl := run_loadCells_list (P := P) w a cs hsrc
  have hst := run_storeCells_at P g o t cs 0 cur w hg (by simpa using hfit) h1
  cases hq : P.info? elem with
  | none => simp [hq] at hs
  | some i =>
    have hi : i.size = s := by simpa [hq] using hs
    rw [hl'] at hl
    simp [Builtin.copy_, run_underlying hu, Builtin.lenOf, Builtin.firstCells, sizeOf, typeInfo, hq, hi, hn, hl, hst]
theorem copy_zero {P : Program} (w : World) (dT sT ty elem : TypeId) (s : Nat) (d a : Option Addr) (dLen dCap sLen sCap : Nat) (hu : P.underlying dT = some (.slice elem)) (hs : (P.info? elem).map (·.size) = some s) (hn : Nat.min sLen dLen = 0) :
    (Builtin.copy_ #[dT, sT] ty #[.slice d dLen dCap, .slice a sLen sCap]).run P w = .ok (goInt 0) w := by
  cases hq : P.info? elem with
  | none => simp [hq] at hs
  | some i =>
    have hl : ∀ (x : Addr), (loadCells x 0).run P w = .ok #[] w := fun x => by simpa using run_loadCells_list (P := P) w x [] (by simp)
    cases a with
    | none => cases d <;> simp [Builtin.copy_, run_underlying hu, Builtin.lenOf, Builtin.firstCells, sizeOf, typeInfo, hq, hn, storeCells]
    | some a => cases d <;> simp [Builtin.copy_, run_underlying hu, Builtin.lenOf, Builtin.firstCells, sizeOf, typeInfo, hq, hn, hl, storeCells]
/-- make and copy: a row of one token more than what is copied. -/
theorem copy_toks (u : World) (A : Option Addr) (c n : Nat) (news : List Value) (hn : news.length = n * 4) (hsrc : 0 < n → ∃ ad, A = some ad ∧ ∀ j v, news[j]? = some v → u.cell? (ad.add j) = some v) (h1 : ∀ v ∈ news, v.oneCell' = true) (Z : Array Value) :
    ∃ W1 t0 t1 t2 t3, Sem.run Try.prog (Builtin.copy_ #[34, 34] 3 #[.slice (some ⟨u.heap.size, 0, none⟩) (n + 1) (n + 1), .slice A n c]) (u.alloc (.cells (madeCells Z ((n + 1) * 4)) 41)) = .ok (.int .i64 n) W1 ∧ W1.heap[u.heap.size]? = some (.cells (news ++ [t0, t1, t2, t3]).toArray 41 (0, 0)) ∧ Kp u W1 := by
  have hg := blk_new u (.cells (madeCells Z ((n + 1) * 4)) 41)
  have hk : Kp u (u.alloc (.cells (madeCells Z ((n + 1) * 4)) 41)) := (Kp.refl u).alloc _
  have hcs : (madeCells Z ((n + 1) * 4)).size = (n + 1) * 4 := by simp [madeCells]
  have tail4 : ∀ L : List Value, L.length = 4 → ∃ t0 t1 t2 t3, L = [t0, t1, t2, t3] := by
    intro L hL
    match L, hL with
    | [a, b, c, d], _ => exact ⟨a, b, c, d, rfl⟩
  generalize madeCells Z ((n + 1) * 4) = C at hg hk hcs ⊢
  have hsrc2 : 0 < n → ∃ ad, A = some ad ∧ ∀ j v, news[j]? = some v → (u.alloc (.cells C 41)).cell? (ad.add j) = some v := by
    intro hp
    obtain ⟨ad, e, hc⟩ := hsrc hp
    exact ⟨ad, e, fun j v hv => Lib.cell?_alloc_some _ (hc j v hv)⟩
  generalize u.alloc (.cells C 41) = W at hg hk hsrc2 ⊢
  rcases Nat.eq_zero_or_pos n with h0 | h0
  · subst h0
    obtain rfl : news = [] := List.eq_nil_of_length_eq_zero (by simpa using hn)
    obtain ⟨t0, t1, t2, t3, e⟩ := tail4 C.toList (by rw [Array.length_toList]; omega)
    exact ⟨W, t0, t1, t2, t3, copy_zero W _ _ 3 41 4 _ _ _ _ _ _ Try.underlying34 tok_inf (by simp), by rw [hg, List.nil_append, ← e], hk⟩
  · obtain ⟨ad, rfl, hc⟩ := hsrc2 h0
    have hrun := copy_rows (P := Try.prog) W 34 34 3 41 4 n u.heap.size 0 (n + 1) (n + 1) ad n c _ 41 news Try.underlying34 tok_inf hg (Nat.min_eq_left (by omega)) hn hc (by omega) h1
    obtain ⟨t0, t1, t2, t3, e⟩ := tail4 (C.toList.drop (0 + news.length)) (by rw [List.length_drop, Array.length_toList]; omega)
    refine ⟨_, t0, t1, t2, t3, hrun, ?_, below_setRow hk (Nat.le_refl _) _⟩
    rw [setRow_heap W u.heap.size _ _ 41 _ hg, e]
    simp
/-- The row made, its last token written. -/
theorem made_set {news : List Value} {t0 t1 t2 t3 v0 v1 v2 v3 : Value} {n : Nat} (hn : news.length = n * 4) : ((((((news ++ [t0, t1, t2, t3]).toArray).setIfInBounds (n * 4) v0).setIfInBounds (n * 4 + 1) v1).setIfInBounds (n * 4 + 2) v2).setIfInBounds (n * 4 + 3) v3) = (news ++ [v0, v1, v2, v3]).toArray := by
  simp only [List.setIfInBounds_toArray]
  rw [← hn, List.set_append_right _ _ (Nat.le_refl _), List.set_append_right _ _ (by omega), List.set_append_right _ _ (by omega), List.set_append_right _ _ (by omega)]
  simp
set_option maxRecDepth 20000 in
set_option maxHeartbeats 4000000 in
theorem mem15 {W : World} {Q : Exit → Act → World → Prop} {s0 s1 s2 s3 s4 s6 s8 s10 s11 s12 s13 s14 s15 s16 s17 s18 s19 s20 s21 s22 s23 s24 s25 s26 s27 s28 s29 s30 s31 s32 s33 s34 s35 s36 s37 s38 s39 s40 s41 s42 s43 s44 s45 s46 s47 s48 s49 s50 s51 s52 s53 s54 s55 s56 s57 s58 s59 s60 s61 s62 s63 s64 s65 s66 s67 s68 s69 s70 s71 s72 s73 s74 s75 s76 s77 s78 s79 s80 s81 s82 s83 s84 s85 s86 s87 s88 s89 s90 s91 s92 s93 s94 s95 s96 s97 s98 s99 s100 s101 s102 s103 s104 s105 s106 s107 s108 s109 : Value} (b1 o1 n1 c1 b2 o2 n2 c2 k : Nat) (kd ln cl : Int) (s : ByteArray) (hb1 : b1 < W.heap.size) (hb2 : b2 < W.heap.size) (K1 : W.cell? ⟨b1, o1 + k * 4, none⟩ = some (.int .i64 kd)) (T1 : W.cell? ⟨b1, o1 + k * 4 + 1, none⟩ = some (.string s)) (L1 : W.cell? ⟨b1, o1 + k * 4 + 2, none⟩ = some (.int .i64 ln)) (C1 : W.cell? ⟨b1, o1 + k * 4 + 3, none⟩ = some (.int .i64 cl)) (K2 : W.cell? ⟨b2, o2 + k * 4, none⟩ = some (.int .i64 kd)) (T2 : W.cell? ⟨b2, o2 + k * 4 + 1, none⟩ = some (.string s)) (L2 : W.cell? ⟨b2, o2 + k * 4 + 2, none⟩ = some (.int .i64 ln)) (C2 : W.cell? ⟨b2, o2 + k * 4 + 3, none⟩ = some (.int .i64 cl)) (i1 : (k : Int) < (n1 : Int)) (i2 : (k : Int) < (n2 : Int)) (hq : ∀ w, Sem.run Try.prog (binOp .neq 41 (.agg #[.int .i64 kd, .string s, .int .i64 ln, .int .i64 cl]) (.agg #[.int .i64 kd, .string s, .int .i64 ln, .int .i64 cl])) w = .ok (.bool false) w)
    (hE : ∀ u, Kp W u → Q .normal { tmps := #[s0, s1, s2, s3, s4, .slice (some ⟨b1, o1, none⟩) n1 c1, s6, .slice (some ⟨b2, o2, none⟩) n2 c2, s8, .int .i64 (k : Int), s10, s11, s12, s13, s14, s15, s16, s17, s18, s19, s20, s21, s22, s23, s24, s25, s26, s27, s28, s29, s30, s31, s32, s33, s34, s35, s36, s37, s38, s39, s40, s41, s42, s43, s44, s45, s46, s47, s48, s49, s50, s51, s52, s53, s54, s55, s56, s57, s58, s59, s60, s61, .slice (some ⟨b1, o1, none⟩) n1 c1, .int .i64 (k : Int), .pointer (some ⟨b1, o1 + k * 4, none⟩), .agg #[.int .i64 kd, .string s, .int .i64 ln, .int .i64 cl], .slice (some ⟨b2, o2, none⟩) n2 c2, .int .i64 (k : Int), .pointer (some ⟨b2, o2 + k * 4, none⟩), .agg #[.int .i64 kd, .string s, .int .i64 ln, .int .i64 cl], .bool false, s71, s72, s73, s74, s75, s76, s77, s78, s79, s80, s81, s82, s83, s84, s85, s86, s87, s88, s89, s90, s91, s92, s93, s94, s95, s96, s97, s98, s99, s100, s101, s102, s103, s104, s105, s106, s107, s108, s109], defers := [] } u) :
    (Code.region 15 (regArr Try.f8 15) true).wp Try.prog Q { tmps := #[s0, s1, s2, s3, s4, .slice (some ⟨b1, o1, none⟩) n1 c1, s6, .slice (some ⟨b2, o2, none⟩) n2 c2, s8, .int .i64 (k : Int), s10, s11, s12, s13, s14, s15, s16, s17, s18, s19, s20, s21, s22, s23, s24, s25, s26, s27, s28, s29, s30, s31, s32, s33, s34, s35, s36, s37, s38, s39, s40, s41, s42, s43, s44, s45, s46, s47, s48, s49, s50, s51, s52, s53, s54, s55, s56, s57, s58, s59, s60, s61, s62, s63, s64, s65, s66, s67, s68, s69, s70, s71, s72, s73, s74, s75, s76, s77, s78, s79, s80, s81, s82, s83, s84, s85, s86, s87, s88, s89, s90, s91, s92, s93, s94, s95, s96, s97, s98, s99, s100, s101, s102, s103, s104, s105, s106, s107, s108, s109], defers := [] } W := by
  simp only [regArr, Try.f8, Option.map_some, Option.getD_some, regOf, if_true, if_false, List.append_nil, List.nil_append, List.toList_toArray, Nat.reduceEqDiff, reduceIte]
  refine wp_region_kp [[], [], [0, 1], [2], [], [], [4, 5], [6], [3, 7]] (fun u => Kp W u)
    [fun (y : Value) (u : World) => y = (.slice (some ⟨b1, o1, none⟩) n1 c1 : Value),
     fun (y : Value) (u : World) => y = (.int .i64 (k : Int) : Value),
     fun (y : Value) (u : World) => y = (.pointer (some ⟨b1, o1 + k * 4, none⟩) : Value),
     fun (y : Value) (u : World) => y = (.agg #[.int .i64 kd, .string s, .int .i64 ln, .int .i64 cl] : Value),
     fun (y : Value) (u : World) => y = (.slice (some ⟨b2, o2, none⟩) n2 c2 : Value),
     fun (y : Value) (u : World) => y = (.int .i64 (k : Int) : Value),
     fun (y : Value) (u : World) => y = (.pointer (some ⟨b2, o2 + k * 4, none⟩) : Value),
     fun (y : Value) (u : World) => y = (.agg #[.int .i64 kd, .string s, .int .i64 ln, .int .i64 cl] : Value),
     fun (y : Value) (u : World) => y = (.bool false : Value)]
    (by kernel_rfl) (by kernel_rfl) (by kernel_rfl) (by kernel_rfl) ((Kp.refl _).drew) (fun _ _ hk h => h.trans hk) ⟨fun _ _ _ _ h => h, fun _ _ _ _ h => h, fun _ _ _ _ h => h, fun _ _ _ _ h => h, fun _ _ _ _ h => h, fun _ _ _ _ h => h, fun _ _ _ _ h => h, fun _ _ _ _ h => h, fun _ _ _ _ h => h, trivial⟩ ⟨?sb0, ?sb1, ?sb2, ?sb3, ?sb4, ?sb5, ?sb6, ?sb7, ?sb8, trivial⟩ ?hEb
  case sb0 =>
    refine OpStepK.by_ ?_
    intro a x u ht hs hg hd K hK
    clear hd
    refine OpGoal.live (wanted_free (by kernel_rfl)) ?_
    have e5 : a.eval (Operand.tmp 5) = (.slice (some ⟨b1, o1, none⟩) n1 c1 : Value) := (ht 5).trans (by kernel_rfl)
    clear ht hs
    refine BigFrame.wp_move _ rfl ?_
    exact hK.out _ _ (Kp.refl _) e5
  case sb1 =>
    refine OpStepK.by_ ?_
    intro a x u ht hs hg hd K hK
    clear hd
    refine OpGoal.live (wanted_free (by kernel_rfl)) ?_
    have e9 : a.eval (Operand.tmp 9) = (.int .i64 (k : Int) : Value) := (ht 9).trans (by kernel_rfl)
    clear ht hs
    refine BigFrame.wp_move _ rfl ?_
    exact hK.out _ _ (Kp.refl _) e9
  case sb2 =>
    refine OpStepK.by_ ?_
    intro a x u ht hs hg hd K hK
    have d0 : (x 0) = .slice (some ⟨b1, o1, none⟩) n1 c1 := And.left hd
    have d1 : (x 1) = .int .i64 (k : Int) := And.left (And.right hd)
    clear hd
    refine OpGoal.live (wanted_free (by kernel_rfl)) ?_
    have e62 : a.tmps[62]? = some (.slice (some ⟨b1, o1, none⟩) n1 c1 : Value) := (hs 62).trans (Eq.trans (b := some (x 0)) (by kernel_rfl) (by rw [d0]))
    have e63 : a.tmps[63]? = some (.int .i64 (k : Int) : Value) := (hs 63).trans (Eq.trans (b := some (x 1)) (by kernel_rfl) (by rw [d1]))
    clear d0 d1
    clear ht hs
    go_simp
    exact hK.out _ _ (Kp.refl _) rfl
  case sb3 =>
    refine OpStepK.by_ ?_
    intro a x u ht hs hg hd K hK
    have d2 : (x 2) = .pointer (some ⟨b1, o1 + k * 4, none⟩) := And.left hd
    clear hd
    refine OpGoal.live (wanted_free (by kernel_rfl)) ?_
    have e64 : a.tmps[64]? = some (.pointer (some ⟨b1, o1 + k * 4, none⟩) : Value) := (hs 64).trans (Eq.trans (b := some (x 2)) (by kernel_rfl) (by rw [d2]))
    clear d2
    clear ht hs
    have q0 := cell_kp hg hb1 K1
    have q1 := cell_kp hg hb1 T1
    have q2 := cell_kp hg hb1 L1
    have q3 := cell_kp hg hb1 C1
    go_simp
    exact hK.out _ _ (Kp.refl _) rfl
  case sb4 =>
    refine OpStepK.by_ ?_
    intro a x u ht hs hg hd K hK
    clear hd
    refine OpGoal.live (wanted_free (by kernel_rfl)) ?_
    have e7 : a.eval (Operand.tmp 7) = (.slice (some ⟨b2, o2, none⟩) n2 c2 : Value) := (ht 7).trans (by kernel_rfl)
    clear ht hs
    refine BigFrame.wp_move _ rfl ?_
    exact hK.out _ _ (Kp.refl _) e7
  case sb5 =>
    refine OpStepK.by_ ?_
    intro a x u ht hs hg hd K hK
    clear hd
    refine OpGoal.live (wanted_free (by kernel_rfl)) ?_
    have e9 : a.eval (Operand.tmp 9) = (.int .i64 (k : Int) : Value) := (ht 9).trans (by kernel_rfl)
    clear ht hs
    refine BigFrame.wp_move _ rfl ?_
    exact hK.out _ _ (Kp.refl _) e9
  case sb6 =>
    refine OpStepK.by_ ?_
    intro a x u ht hs hg hd K hK
    have d4 : (x 4) = .slice (some ⟨b2, o2, none⟩) n2 c2 := And.left hd
    have d5 : (x 5) = .int .i64 (k : Int) := And.left (And.right hd)
    clear hd
    refine OpGoal.live (wanted_free (by kernel_rfl)) ?_
    have e66 : a.tmps[66]? = some (.slice (some ⟨b2, o2, none⟩) n2 c2 : Value) := (hs 66).trans (Eq.trans (b := some (x 4)) (by kernel_rfl) (by rw [d4]))
    have e67 : a.tmps[67]? = some (.int .i64 (k : Int) : Value) := (hs 67).trans (Eq.trans (b := some (x 5)) (by kernel_rfl) (by rw [d5]))
    clear d4 d5
    clear ht hs
    go_simp
    exact hK.out _ _ (Kp.refl _) rfl
  case sb7 =>
    refine OpStepK.by_ ?_
    intro a x u ht hs hg hd K hK
    have d6 : (x 6) = .pointer (some ⟨b2, o2 + k * 4, none⟩) := And.left hd
    clear hd
    refine OpGoal.live (wanted_free (by kernel_rfl)) ?_
    have e68 : a.tmps[68]? = some (.pointer (some ⟨b2, o2 + k * 4, none⟩) : Value) := (hs 68).trans (Eq.trans (b := some (x 6)) (by kernel_rfl) (by rw [d6]))
    clear d6
    clear ht hs
    have q0 := cell_kp hg hb2 K2
    have q1 := cell_kp hg hb2 T2
    have q2 := cell_kp hg hb2 L2
    have q3 := cell_kp hg hb2 C2
    go_simp
    exact hK.out _ _ (Kp.refl _) rfl
  case sb8 =>
    refine OpStepK.by_ ?_
    intro a x u ht hs hg hd K hK
    have d3 : (x 3) = .agg #[.int .i64 kd, .string s, .int .i64 ln, .int .i64 cl] := And.left hd
    have d7 : (x 7) = .agg #[.int .i64 kd, .string s, .int .i64 ln, .int .i64 cl] := And.left (And.right hd)
    clear hd
    refine OpGoal.live (wanted_free (by kernel_rfl)) ?_
    have e65 : a.tmps[65]? = some (.agg #[.int .i64 kd, .string s, .int .i64 ln, .int .i64 cl] : Value) := (hs 65).trans (Eq.trans (b := some (x 3)) (by kernel_rfl) (by rw [d3]))
    have e69 : a.tmps[69]? = some (.agg #[.int .i64 kd, .string s, .int .i64 ln, .int .i64 cl] : Value) := (hs 69).trans (Eq.trans (b := some (x 7)) (by kernel_rfl) (by rw [d7]))
    clear d3 d7
    clear ht hs
    go_simp
    exact hK.out _ _ (Kp.refl _) rfl
  intro x u hg he
  have d0 : (x 0) = .slice (some ⟨b1, o1, none⟩) n1 c1 := And.left he
  have d1 : (x 1) = .int .i64 (k : Int) := And.left (And.right he)
  have d2 : (x 2) = .pointer (some ⟨b1, o1 + k * 4, none⟩) := And.left (And.right (And.right he))
  have d3 : (x 3) = .agg #[.int .i64 kd, .string s, .int .i64 ln, .int .i64 cl] := And.left (And.right (And.right (And.right he)))
  have d4 : (x 4) = .slice (some ⟨b2, o2, none⟩) n2 c2 := And.left (And.right (And.right (And.right (And.right he))))
  have d5 : (x 5) = .int .i64 (k : Int) := And.left (And.right (And.right (And.right (And.right (And.right he)))))
  have d6 : (x 6) = .pointer (some ⟨b2, o2 + k * 4, none⟩) := And.left (And.right (And.right (And.right (And.right (And.right (And.right he))))))
  have d7 : (x 7) = .agg #[.int .i64 kd, .string s, .int .i64 ln, .int .i64 cl] := And.left (And.right (And.right (And.right (And.right (And.right (And.right (And.right he)))))))
  have d8 : (x 8) = .bool false := And.left (And.right (And.right (And.right (And.right (And.right (And.right (And.right (And.right he))))))))
  clear he
  refine ⟨?_⟩
  simp only [putsFrom, Act.put, List.setIfInBounds_toArray, List.set_cons_zero, List.set_cons_succ, Nat.reduceAdd, d0, d1, d2, d3, d4, d5, d6, d7, d8]
  clear d0 d1 d2 d3 d4 d5 d6 d7 d8
  exact hE _ hg
set_option maxRecDepth 20000 in
set_option maxHeartbeats 4000000 in
theorem mem24 {W : World} {Q : Exit → Act → World → Prop} {s0 s1 s2 s3 s4 s5 s6 s8 s9 s12 s13 s14 s15 s16 s17 s18 s19 s20 s21 s22 s23 s24 s25 s26 s27 s28 s29 s30 s31 s32 s33 s34 s35 s36 s37 s38 s39 s40 s41 s42 s43 s44 s45 s46 s47 s48 s49 s50 s51 s52 s53 s54 s55 s56 s57 s58 s59 s60 s61 s62 s63 s64 s65 s66 s67 s68 s69 s70 s71 s72 s73 s74 s75 s76 s77 s78 s79 s80 s81 s82 s83 s84 s85 s86 s87 s88 s89 s90 s91 s92 s93 s94 s95 s96 s97 s98 s99 s100 s101 s102 s103 s104 s105 s106 s107 s108 s109 : Value} (b1 o1 n1 c1 b2 o2 n2 c2 k : Nat) (kd ln cl : Int) (s : ByteArray) (hb1 : b1 < W.heap.size) (hb2 : b2 < W.heap.size) (K1 : W.cell? ⟨b1, o1 + k * 4, none⟩ = some (.int .i64 kd)) (T1 : W.cell? ⟨b1, o1 + k * 4 + 1, none⟩ = some (.string s)) (L1 : W.cell? ⟨b1, o1 + k * 4 + 2, none⟩ = some (.int .i64 ln)) (C1 : W.cell? ⟨b1, o1 + k * 4 + 3, none⟩ = some (.int .i64 cl)) (K2 : W.cell? ⟨b2, o2 + k * 4, none⟩ = some (.int .i64 kd)) (T2 : W.cell? ⟨b2, o2 + k * 4 + 1, none⟩ = some (.string s)) (L2 : W.cell? ⟨b2, o2 + k * 4 + 2, none⟩ = some (.int .i64 ln)) (C2 : W.cell? ⟨b2, o2 + k * 4 + 3, none⟩ = some (.int .i64 cl)) (i1 : (k : Int) < (n1 : Int)) (i2 : (k : Int) < (n2 : Int)) (hq : ∀ w, Sem.run Try.prog (binOp .neq 41 (.agg #[.int .i64 kd, .string s, .int .i64 ln, .int .i64 cl]) (.agg #[.int .i64 kd, .string s, .int .i64 ln, .int .i64 cl])) w = .ok (.bool false) w)
    (hE : ∀ u, Kp W u → Q .normal { tmps := #[s0, s1, s2, s3, s4, s5, s6, .slice (some ⟨b2, o2, none⟩) n2 c2, s8, s9, .slice (some ⟨b1, o1, none⟩) n1 c1, .int .i64 (k : Int), s12, s13, s14, s15, s16, s17, s18, s19, s20, s21, s22, s23, s24, s25, s26, s27, s28, s29, s30, s31, s32, s33, s34, s35, s36, s37, s38, s39, s40, s41, s42, s43, s44, s45, s46, s47, s48, s49, s50, s51, s52, s53, s54, s55, s56, s57, s58, s59, s60, s61, s62, s63, s64, s65, s66, s67, s68, s69, s70, s71, s72, s73, s74, s75, s76, s77, s78, s79, s80, s81, s82, s83, s84, s85, s86, s87, s88, s89, s90, s91, s92, s93, .slice (some ⟨b1, o1, none⟩) n1 c1, .int .i64 (k : Int), .pointer (some ⟨b1, o1 + k * 4, none⟩), .agg #[.int .i64 kd, .string s, .int .i64 ln, .int .i64 cl], .slice (some ⟨b2, o2, none⟩) n2 c2, .int .i64 (k : Int), .pointer (some ⟨b2, o2 + k * 4, none⟩), .agg #[.int .i64 kd, .string s, .int .i64 ln, .int .i64 cl], .bool false, s103, s104, s105, s106, s107, s108, s109], defers := [] } u) :
    (Code.region 24 (regArr Try.f8 24) true).wp Try.prog Q { tmps := #[s0, s1, s2, s3, s4, s5, s6, .slice (some ⟨b2, o2, none⟩) n2 c2, s8, s9, .slice (some ⟨b1, o1, none⟩) n1 c1, .int .i64 (k : Int), s12, s13, s14, s15, s16, s17, s18, s19, s20, s21, s22, s23, s24, s25, s26, s27, s28, s29, s30, s31, s32, s33, s34, s35, s36, s37, s38, s39, s40, s41, s42, s43, s44, s45, s46, s47, s48, s49, s50, s51, s52, s53, s54, s55, s56, s57, s58, s59, s60, s61, s62, s63, s64, s65, s66, s67, s68, s69, s70, s71, s72, s73, s74, s75, s76, s77, s78, s79, s80, s81, s82, s83, s84, s85, s86, s87, s88, s89, s90, s91, s92, s93, s94, s95, s96, s97, s98, s99, s100, s101, s102, s103, s104, s105, s106, s107, s108, s109], defers := [] } W := by
  simp only [regArr, Try.f8, Option.map_some, Option.getD_some, regOf, if_true, if_false, List.append_nil, List.nil_append, List.toList_toArray, Nat.reduceEqDiff, reduceIte]
  refine wp_region_kp [[], [], [0, 1], [2], [], [], [4, 5], [6], [3, 7]] (fun u => Kp W u)
    [fun (y : Value) (u : World) => y = (.slice (some ⟨b1, o1, none⟩) n1 c1 : Value),
     fun (y : Value) (u : World) => y = (.int .i64 (k : Int) : Value),
     fun (y : Value) (u : World) => y = (.pointer (some ⟨b1, o1 + k * 4, none⟩) : Value),
     fun (y : Value) (u : World) => y = (.agg #[.int .i64 kd, .string s, .int .i64 ln, .int .i64 cl] : Value),
     fun (y : Value) (u : World) => y = (.slice (some ⟨b2, o2, none⟩) n2 c2 : Value),
     fun (y : Value) (u : World) => y = (.int .i64 (k : Int) : Value),
     fun (y : Value) (u : World) => y = (.pointer (some ⟨b2, o2 + k * 4, none⟩) : Value),
     fun (y : Value) (u : World) => y = (.agg #[.int .i64 kd, .string s, .int .i64 ln, .int .i64 cl] : Value),
     fun (y : Value) (u : World) => y = (.bool false : Value)]
    (by kernel_rfl) (by kernel_rfl) (by kernel_rfl) (by kernel_rfl) ((Kp.refl _).drew) (fun _ _ hk h => h.trans hk) ⟨fun _ _ _ _ h => h, fun _ _ _ _ h => h, fun _ _ _ _ h => h, fun _ _ _ _ h => h, fun _ _ _ _ h => h, fun _ _ _ _ h => h, fun _ _ _ _ h => h, fun _ _ _ _ h => h, fun _ _ _ _ h => h, trivial⟩ ⟨?sc0, ?sc1, ?sc2, ?sc3, ?sc4, ?sc5, ?sc6, ?sc7, ?sc8, trivial⟩ ?hEc
  case sc0 =>
    refine OpStepK.by_ ?_
    intro a x u ht hs hg hd K hK
    clear hd
    refine OpGoal.live (wanted_free (by kernel_rfl)) ?_
    have e10 : a.eval (Operand.tmp 10) = (.slice (some ⟨b1, o1, none⟩) n1 c1 : Value) := (ht 10).trans (by kernel_rfl)
    clear ht hs
    refine BigFrame.wp_move _ rfl ?_
    exact hK.out _ _ (Kp.refl _) e10
  case sc1 =>
    refine OpStepK.by_ ?_
    intro a x u ht hs hg hd K hK
    clear hd
    refine OpGoal.live (wanted_free (by kernel_rfl)) ?_
    have e11 : a.eval (Operand.tmp 11) = (.int .i64 (k : Int) : Value) := (ht 11).trans (by kernel_rfl)
    clear ht hs
    refine BigFrame.wp_move _ rfl ?_
    exact hK.out _ _ (Kp.refl _) e11
  case sc2 =>
    refine OpStepK.by_ ?_
    intro a x u ht hs hg hd K hK
    have d0 : (x 0) = .slice (some ⟨b1, o1, none⟩) n1 c1 := And.left hd
    have d1 : (x 1) = .int .i64 (k : Int) := And.left (And.right hd)
    clear hd
    refine OpGoal.live (wanted_free (by kernel_rfl)) ?_
    have e94 : a.tmps[94]? = some (.slice (some ⟨b1, o1, none⟩) n1 c1 : Value) := (hs 94).trans (Eq.trans (b := some (x 0)) (by kernel_rfl) (by rw [d0]))
    have e95 : a.tmps[95]? = some (.int .i64 (k : Int) : Value) := (hs 95).trans (Eq.trans (b := some (x 1)) (by kernel_rfl) (by rw [d1]))
    clear d0 d1
    clear ht hs
    go_simp
    exact hK.out _ _ (Kp.refl _) rfl
  case sc3 =>
    refine OpStepK.by_ ?_
    intro a x u ht hs hg hd K hK
    have d2 : (x 2) = .pointer (some ⟨b1, o1 + k * 4, none⟩) := And.left hd
    clear hd
    refine OpGoal.live (wanted_free (by kernel_rfl)) ?_
    have e96 : a.tmps[96]? = some (.pointer (some ⟨b1, o1 + k * 4, none⟩) : Value) := (hs 96).trans (Eq.trans (b := some (x 2)) (by kernel_rfl) (by rw [d2]))
    clear d2
    clear ht hs
    have q0 := cell_kp hg hb1 K1
    have q1 := cell_kp hg hb1 T1
    have q2 := cell_kp hg hb1 L1
    have q3 := cell_kp hg hb1 C1
    go_simp
    exact hK.out _ _ (Kp.refl _) rfl
  case sc4 =>
    refine OpStepK.by_ ?_
    intro a x u ht hs hg hd K hK
    clear hd
    refine OpGoal.live (wanted_free (by kernel_rfl)) ?_
    have e7 : a.eval (Operand.tmp 7) = (.slice (some ⟨b2, o2, none⟩) n2 c2 : Value) := (ht 7).trans (by kernel_rfl)
    clear ht hs
    refine BigFrame.wp_move _ rfl ?_
    exact hK.out _ _ (Kp.refl _) e7
  case sc5 =>
    refine OpStepK.by_ ?_
    intro a x u ht hs hg hd K hK
    clear hd
    refine OpGoal.live (wanted_free (by kernel_rfl)) ?_
    have e11 : a.eval (Operand.tmp 11) = (.int .i64 (k : Int) : Value) := (ht 11).trans (by kernel_rfl)
    clear ht hs
    refine BigFrame.wp_move _ rfl ?_
    exact hK.out _ _ (Kp.refl _) e11
  case sc6 =>
    refine OpStepK.by_ ?_
    intro a x u ht hs hg hd K hK
    have d4 : (x 4) = .slice (some ⟨b2, o2, none⟩) n2 c2 := And.left hd
    have d5 : (x 5) = .int .i64 (k : Int) := And.left (And.right hd)
    clear hd
    refine OpGoal.live (wanted_free (by kernel_rfl)) ?_
    have e98 : a.tmps[98]? = some (.slice (some ⟨b2, o2, none⟩) n2 c2 : Value) := (hs 98).trans (Eq.trans (b := some (x 4)) (by kernel_rfl) (by rw [d4]))
    have e99 : a.tmps[99]? = some (.int .i64 (k : Int) : Value) := (hs 99).trans (Eq.trans (b := some (x 5)) (by kernel_rfl) (by rw [d5]))
    clear d4 d5
    clear ht hs
    go_simp
    exact hK.out _ _ (Kp.refl _) rfl
  case sc7 =>
    refine OpStepK.by_ ?_
    intro a x u ht hs hg hd K hK
    have d6 : (x 6) = .pointer (some ⟨b2, o2 + k * 4, none⟩) := And.left hd
    clear hd
    refine OpGoal.live (wanted_free (by kernel_rfl)) ?_
    have e100 : a.tmps[100]? = some (.pointer (some ⟨b2, o2 + k * 4, none⟩) : Value) := (hs 100).trans (Eq.trans (b := some (x 6)) (by kernel_rfl) (by rw [d6]))
    clear d6
    clear ht hs
    have q0 := cell_kp hg hb2 K2
    have q1 := cell_kp hg hb2 T2
    have q2 := cell_kp hg hb2 L2
    have q3 := cell_kp hg hb2 C2
    go_simp
    exact hK.out _ _ (Kp.refl _) rfl
  case sc8 =>
    refine OpStepK.by_ ?_
    intro a x u ht hs hg hd K hK
    have d3 : (x 3) = .agg #[.int .i64 kd, .string s, .int .i64 ln, .int .i64 cl] := And.left hd
    have d7 : (x 7) = .agg #[.int .i64 kd, .string s, .int .i64 ln, .int .i64 cl] := And.left (And.right hd)
    clear hd
    refine OpGoal.live (wanted_free (by kernel_rfl)) ?_
    have e97 : a.tmps[97]? = some (.agg #[.int .i64 kd, .string s, .int .i64 ln, .int .i64 cl] : Value) := (hs 97).trans (Eq.trans (b := some (x 3)) (by kernel_rfl) (by rw [d3]))
    have e101 : a.tmps[101]? = some (.agg #[.int .i64 kd, .string s, .int .i64 ln, .int .i64 cl] : Value) := (hs 101).trans (Eq.trans (b := some (x 7)) (by kernel_rfl) (by rw [d7]))
    clear d3 d7
    clear ht hs
    go_simp
    exact hK.out _ _ (Kp.refl _) rfl
  intro x u hg he
  have d0 : (x 0) = .slice (some ⟨b1, o1, none⟩) n1 c1 := And.left he
  have d1 : (x 1) = .int .i64 (k : Int) := And.left (And.right he)
  have d2 : (x 2) = .pointer (some ⟨b1, o1 + k * 4, none⟩) := And.left (And.right (And.right he))
  have d3 : (x 3) = .agg #[.int .i64 kd, .string s, .int .i64 ln, .int .i64 cl] := And.left (And.right (And.right (And.right he)))
  have d4 : (x 4) = .slice (some ⟨b2, o2, none⟩) n2 c2 := And.left (And.right (And.right (And.right (And.right he))))
  have d5 : (x 5) = .int .i64 (k : Int) := And.left (And.right (And.right (And.right (And.right (And.right he)))))
  have d6 : (x 6) = .pointer (some ⟨b2, o2 + k * 4, none⟩) := And.left (And.right (And.right (And.right (And.right (And.right (And.right he))))))
  have d7 : (x 7) = .agg #[.int .i64 kd, .string s, .int .i64 ln, .int .i64 cl] := And.left (And.right (And.right (And.right (And.right (And.right (And.right (And.right he)))))))
  have d8 : (x 8) = .bool false := And.left (And.right (And.right (And.right (And.right (And.right (And.right (And.right (And.right he))))))))
  clear he
  refine ⟨?_⟩
  simp only [putsFrom, Act.put, List.setIfInBounds_toArray, List.set_cons_zero, List.set_cons_succ, Nat.reduceAdd, d0, d1, d2, d3, d4, d5, d6, d7, d8]
  clear d0 d1 d2 d3 d4 d5 d6 d7 d8
  exact hE _ hg
end Go.Proofs.Ytlfgofjmcegeiaa
