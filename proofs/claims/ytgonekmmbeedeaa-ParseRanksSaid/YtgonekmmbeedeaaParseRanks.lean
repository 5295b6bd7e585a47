/-
  The law ParseRanks answers true for every two numbers. No condition.
-/
import Derived.SizedLaws
import Derived.Deep.CondSized
import Derived.Test.YtgonekmmbeedeaaRows
import Derived.Test.YtgonekmmbeedeaaRnk
import Derived.Test.YtgonekmmbeedeaaSgn
import Derived.Test.YtgonekmmbeedeaaSpot
namespace Go.Proofs.Ytgonekmmbeedeaa.parseRanks
open Go.ChangeShapes Go.WideShapes Go.ChangeAt Go.RowKit
open Go.ChangeMaps (open_string shut_string)
set_option linter.unusedVariables false
set_option linter.unusedSimpArgs false

theorem own : ownKnob Try.prog.godebug = none := by kernel_rfl
theorem laidOut : laidOutB Try.prog = true := by kernel_rfl


open Pa
theorem rd_map {w : World} {v : Value} {l : List GNode} (h : RdL (fun w cs (p : GNode) => CeNode w cs p.1) 5 w v l) : RdL CeNode 5 w v (l.map Prod.fst) := by
  obtain ⟨A, c, h1, h2, h3⟩ := h
  refine ⟨A, c, by rw [List.length_map]; exact h1, by rw [List.length_map]; exact h2, fun i a hi => ?_⟩
  rw [List.getElem?_map] at hi
  cases hp : l[i]? with
  | none => rw [hp] at hi; cases hi
  | some p =>
    rw [hp] at hi
    injection hi with hi
    subst hi
    exact h3 i p hp
theorem rd_tree {w : World} {base : Nat} {v : Value} {t : T} (h : ParO w base v t) : RdL CeNode 5 w v (flat 0 t) := by
  obtain ⟨ps, h1, h2, _, _⟩ := h
  rw [← h2]
  exact rd_map ((OwnL.rd h1).mono fun _ _ h => h.ce)
theorem sgs_eq (k : Nat) : sgS k = sB (signsL.getD k []) := rfl
theorem src_eq (x y : Bs) : ((((⟨#[102, 117, 110, 99, 32, 109, 97, 105, 110, 40, 41, 32, 123, 32, 120, 32, 58, 61, 32, 97, 32]⟩ : ByteArray) ++ sB x) ++ ⟨#[32, 98, 32]⟩) ++ sB y) ++ ⟨#[32, 99, 32, 125]⟩ = sB (rankSrc x y) := by
  apply ByteArray.ext
  apply Array.toList_inj.1
  simp [sB, rankSrc, ByteArray.data_append]
set_option maxRecDepth 20000 in
set_option maxHeartbeats 4000000 in
theorem rank_any (w : World) (k : Nat) (h1 : 1 ≤ k) (h2 : k ≤ 16) : Calls Try.prog 25 #[.int .i64 (k : Int)] w fun e w' => e = .returned (.int .i64 ((rankM k : Nat) : Int)) ∧ Kp w w' := by
  have HK := hid (Kp.refl w)
  obtain rfl | rfl | rfl | rfl | rfl | rfl | rfl | rfl | rfl | rfl | rfl | rfl | rfl | rfl | rfl | rfl : k = 1 ∨ k = 2 ∨ k = 3 ∨ k = 4 ∨ k = 5 ∨ k = 6 ∨ k = 7 ∨ k = 8 ∨ k = 9 ∨ k = 10 ∨ k = 11 ∨ k = 12 ∨ k = 13 ∨ k = 14 ∨ k = 15 ∨ k = 16 := by omega
  all_goals
    clear h1 h2
    go_enter Try.func25, Try.ntmps25
    go_wp2
    go_ret
    exact ⟨rfl, HK.out⟩
theorem rank_list {i j : Nat} {l : List NodeM} (h : rankOk i j l = true) : ∃ n0 n1 n2 n3 n4 n5 n6 n7 n8 n9, l = [n0, n1, n2, n3, n4, n5, n6, n7, n8, n9] ∧ (if rankM i < rankM j then isBin n5 (signsL.getD i []) && isBin n4 (signsL.getD j []) else isBin n5 (signsL.getD j []) && isBin n3 (signsL.getD i [])) = true := by
  have hl : l.length = 10 := by
    unfold rankOk at h
    simp only [Bool.and_eq_true, beq_iff_eq] at h
    exact h.1
  match l, hl, h with
  | [n0, n1, n2, n3, n4, n5, n6, n7, n8, n9], _, h =>
    refine ⟨n0, n1, n2, n3, n4, n5, n6, n7, n8, n9, rfl, ?_⟩
    unfold rankOk at h
    simp only [Bool.and_eq_true] at h
    exact h.2
theorem isBin_eq {n : NodeM} {s : Bs} (h : isBin n s = true) : n.kind = 27 ∧ n.text.data.toList = s := by
  unfold isBin at h
  rw [Bool.and_eq_true, beq_iff_eq, beq_iff_eq] at h
  exact h
theorem text_is {n : NodeM} {k : Nat} (h : n.text.data.toList = signsL.getD k []) : n.text = sgS k := by
  rw [sgs_eq, ← h]; unfold sB; cases n.text; rfl
theorem sgs_len {k : Nat} (h : k ≤ 16) : (sgS k).size ≤ 2 := by
  have hlx : ∀ k, k < 17 → (sgL.getD k []).length ≤ 2 := by decide
  have := hlx k (by omega)
  simpa [sgS, ByteArray.size] using this
theorem five {w : World} {P : Nat} {T : TypeId} {a0 a1 a2 a3 a4 : Value} (h : w.heap[P]? = some (.cells #[a0, a1, a2, a3, a4] T (0, 0))) (v0 v1 v2 v3 v4 : Value) : (((((w.setCell ⟨P, 0, none⟩ v0).setCell ⟨P, 1, none⟩ v1).setCell ⟨P, 2, none⟩ v2).setCell ⟨P, 3, none⟩ v3).setCell ⟨P, 4, none⟩ v4).heap[P]? = some (.cells #[v0, v1, v2, v3, v4] T (0, 0)) := by
  have s0 : (w.setCell ⟨P, 0, none⟩ v0).heap[P]? = some (.cells #[v0, a1, a2, a3, a4] T (0, 0)) := blk_set (o := 0) h v0
  have s1 := (blk_set (o := 1) s0 v1 : _ = some (Obj.cells #[v0, v1, a2, a3, a4] T (0, 0)))
  have s2 := (blk_set (o := 2) s1 v2 : _ = some (Obj.cells #[v0, v1, v2, a3, a4] T (0, 0)))
  have s3 := (blk_set (o := 3) s2 v3 : _ = some (Obj.cells #[v0, v1, v2, v3, a4] T (0, 0)))
  exact blk_set (o := 4) s3 v4
theorem fiveF {w : World} {P R : Nat} (hne : R ≠ P) (v0 v1 v2 v3 v4 : Value) : (((((w.setCell ⟨P, 0, none⟩ v0).setCell ⟨P, 1, none⟩ v1).setCell ⟨P, 2, none⟩ v2).setCell ⟨P, 3, none⟩ v3).setCell ⟨P, 4, none⟩ v4).heap[R]? = w.heap[R]? := by
  rw [blk_far (p := ⟨P, 4, none⟩) hne, blk_far (p := ⟨P, 3, none⟩) hne, blk_far (p := ⟨P, 2, none⟩) hne, blk_far (p := ⟨P, 1, none⟩) hne, blk_far (p := ⟨P, 0, none⟩) hne]
theorem fiveK {w0 w : World} {P : Nat} (hk : Kp w0 w) (hP : w0.heap.size ≤ P) (v0 v1 v2 v3 v4 : Value) : Kp w0 (((((w.setCell ⟨P, 0, none⟩ v0).setCell ⟨P, 1, none⟩ v1).setCell ⟨P, 2, none⟩ v2).setCell ⟨P, 3, none⟩ v3).setCell ⟨P, 4, none⟩ v4) :=
  ((((hk.setCell (p := ⟨P, 0, none⟩) hP v0).setCell (p := ⟨P, 1, none⟩) hP v1).setCell (p := ⟨P, 2, none⟩) hP v2).setCell (p := ⟨P, 3, none⟩) hP v3).setCell (p := ⟨P, 4, none⟩) hP v4
theorem drew_heap {w : World} {k : Nat} {x : Option Obj} (h : w.heap[k]? = x) : w.drew.heap[k]? = x := h
set_option maxRecDepth 20000 in
set_option maxHeartbeats 16000000 in
theorem walk (a0 : Int) (a1 : Int) (w : World) (w0 : (Lit.int .i64 a0).wf = true) (w1 : (Lit.int .i64 a1).wf = true) :
    Calls Try.prog 7 #[.int .i64 a0, .int .i64 a1] w fun e w' => e = .returned (.bool true) ∧ Kp w w' := by
  obtain ⟨i, hi⟩ : ∃ i : Nat, 1 + spotV a0 16 = (i : Int) := ⟨(1 + spotV a0 16).toNat, by have := spotV_bd a0 16 (by omega); omega⟩
  obtain ⟨j, hj⟩ : ∃ j : Nat, 1 + spotV a1 16 = (j : Int) := ⟨(1 + spotV a1 16).toNat, by have := spotV_bd a1 16 (by omega); omega⟩
  have hi2 : 1 ≤ i ∧ i ≤ 16 := by have := spotV_bd a0 16 (by omega); omega
  have hj2 : 1 ≤ j ∧ j ≤ 16 := by have := spotV_bd a1 16 (by omega); omega
  obtain ⟨lt, t, htok, hpm, hok⟩ := rank_at hi2.1 hi2.2 hj2.1 hj2.2
  have ki : IntKind.i64.wrap (1 + spotV a0 16) = (i : Int) := by rw [IntKind.wrap_i64]; omega
  have kj : IntKind.i64.wrap (1 + spotV a1 16) = (j : Int) := by rw [IntKind.wrap_i64]; omega
  have HI := hid hi2; have HJ := hid hj2
  obtain ⟨n0, n1, n2, n3, n4, n5, n6, n7, n8, n9, hfl, hcond⟩ := rank_list hok
  have HC := hid hcond
  clear hcond
  have HTOK := hid htok; have HPM := hid hpm; have HOK := hid hok
  have zi := sgs_len hi2.2
  have zj := sgs_len hj2.2
  clear hi hj hi2 hj2 htok hpm hok w0 w1
  go_enter Try.func7, Try.ntmps7
  go_upto_region 2 with (go_at_call 23; go_must (refine (spot_any _ _ _ (by omega) (by omega)).mono ?_); rintro e wn ⟨rfl, rfl⟩)
  go_upto_region 3 with (go_at_call 24; go_must (refine (sign_in i _ HI.out.1 HI.out.2).mono ?_); rintro e w1 ⟨rfl, hk1⟩; have HK1 := hid hk1; clear hk1)
  go_upto_region 4 with (go_at_call 24; go_must (refine (sign_in j _ HJ.out.1 HJ.out.2).mono ?_); rintro e w2 ⟨rfl, hk2⟩; have HK2 := hid (HK1.out.trans hk2); clear hk2)
  go_upto_region 5 with (go_at_call 20; go_must (refine (parse_hit _ _ (by have h := HTOK.out; rw [← src_eq] at h; exact h) HPM.out).mono ?_); rintro e w3 ⟨⟨v3, rfl, hp3⟩, hk3⟩; have HK3 := hid (HK2.out.trans hk3); have hrd := rd_tree hp3; rw [hfl] at hrd; obtain ⟨A3, c3, rfl, _⟩ := hrd.form; have HT := hid hrd; clear hk3 hp3 hrd)
  go_upto_region 7 with fail
  have HKW := hid (HK3.out.alloc (.cells #[.int .i64 0, .int .i64 0, .int .i64 0] 48))
  have HT2 := hid (HT.out.kp CeNode.kp ((Kp.refl w3).alloc (.cells #[.int .i64 0, .int .i64 0, .int .i64 0] 48)))
  obtain ⟨b, off, rfl, hb, k5, e0, e1, e2, e3, e4, _, _, _, _, r5, _⟩ := at_node HT2.out (i := 5) (m := n5) rfl
  obtain ⟨b', off', ee, _, k3, f0, f1, f2, f3, f4, _, _, _, _, r3, _⟩ := at_node HT2.out (i := 3) (m := n3) rfl
  cases ee
  obtain ⟨b', off', ee, _, k4, g0, g1, g2, g3, g4, _, _, _, _, r4, _⟩ := at_node HT2.out (i := 4) (m := n4) rfl
  cases ee
  obtain ⟨B5, d5, rfl⟩ := r5.form
  obtain ⟨B3, d3, rfl⟩ := r3.form
  obtain ⟨B4, d4, rfl⟩ := r4.form
  generalize n5.kids.length = z5 at e4
  generalize n3.kids.length = z3 at f4
  generalize n4.kids.length = z4 at g4
  simp only [Nat.reduceMul, Nat.add_assoc, Nat.reduceAdd] at e0 e1 e2 e3 e4 f0 f1 f2 f3 f4 g0 g1 g2 g3 g4
  have HBK := hid (blk_new w3 (.cells #[.int .i64 0, .int .i64 0, .int .i64 0] 48))
  clear HT HT2 HK3 r5 r3 r4 HTOK HPM HOK hfl
  generalize w3.alloc (.cells #[.int .i64 0, .int .i64 0, .int .i64 0] 48) = W5 at HKW hb e0 e1 e2 e3 e4 f0 f1 f2 f3 f4 g0 g1 g2 g3 g4 HBK ⊢
  clear HBK
  go_region
  · have HKU := hid (show Kp W5 (((W5.alloc (.cells #[.int .i64 n5.kind, .string n5.text, .string n5.type_, .int .i64 n5.num, .slice B5 z5 d5] 54)).alloc (.cells #[.int .i64 n3.kind, .string n3.text, .string n3.type_, .int .i64 n3.num, .slice B3 z3 d3] 54)).drew) from (((Kp.refl _).alloc _).alloc _).drew)
    have H5 := hid (show (((W5.alloc (.cells #[.int .i64 n5.kind, .string n5.text, .string n5.type_, .int .i64 n5.num, .slice B5 z5 d5] 54)).alloc (.cells #[.int .i64 n3.kind, .string n3.text, .string n3.type_, .int .i64 n3.num, .slice B3 z3 d3] 54)).drew).heap[W5.heap.size]? = some (Obj.cells #[.int .i64 n5.kind, .string n5.text, .string n5.type_, .int .i64 n5.num, .slice B5 z5 d5] 54 (0, 0)) from blk_old (blk_new _ _) _)
    have H3 := hid (show (((W5.alloc (.cells #[.int .i64 n5.kind, .string n5.text, .string n5.type_, .int .i64 n5.num, .slice B5 z5 d5] 54)).alloc (.cells #[.int .i64 n3.kind, .string n3.text, .string n3.type_, .int .i64 n3.num, .slice B3 z3 d3] 54)).drew).heap[W5.heap.size + 1]? = some (Obj.cells #[.int .i64 n3.kind, .string n3.text, .string n3.type_, .int .i64 n3.num, .slice B3 z3 d3] 54 (0, 0)) from blk_new2 _ _ _)
    have hne : W5.heap.size ≠ W5.heap.size + 1 := by omega
    generalize ((W5.alloc (.cells #[.int .i64 n5.kind, .string n5.text, .string n5.type_, .int .i64 n5.num, .slice B5 z5 d5] 54)).alloc (.cells #[.int .i64 n3.kind, .string n3.text, .string n3.type_, .int .i64 n3.num, .slice B3 z3 d3] 54)).drew = W6 at HKU H5 H3 ⊢
    have hbs := hb
    obtain ⟨m2, hm2⟩ : ∃ m, W5.heap.size + 1 = m := ⟨_, rfl⟩
    obtain ⟨m1, hm1⟩ : ∃ m, W5.heap.size = m := ⟨_, rfl⟩
    have HMM := hid (show b < m1 ∧ b < m2 ∧ m1 ≠ m2 ∧ w.heap.size ≤ m1 ∧ w.heap.size ≤ m2 by have := HKW.out.le; omega)
    simp only [hm2] at H5 H3 hne ⊢
    simp only [hm1] at H5 H3 hne ⊢
    clear hbs hm1 hm2
    have x0 := blk_cell (o := 0) (v := (.int .i64 n5.kind : Value)) H5.out rfl
    have x1 := blk_cell (o := 1) (v := (.string n5.text : Value)) H5.out rfl
    have x2 := blk_cell (o := 2) (v := (.string n5.type_ : Value)) H5.out rfl
    have x3 := blk_cell (o := 3) (v := (.int .i64 n5.num : Value)) H5.out rfl
    have x4 := blk_cell (o := 4) (v := (.slice B5 z5 d5 : Value)) H5.out rfl
    have y0 := blk_cell (o := 0) (v := (.int .i64 n3.kind : Value)) H3.out rfl
    have y1 := blk_cell (o := 1) (v := (.string n3.text : Value)) H3.out rfl
    have y2 := blk_cell (o := 2) (v := (.string n3.type_ : Value)) H3.out rfl
    have y3 := blk_cell (o := 3) (v := (.int .i64 n3.num : Value)) H3.out rfl
    have y4 := blk_cell (o := 4) (v := (.slice B3 z3 d3 : Value)) H3.out rfl
    have xl := blk_lt H5.out
    have yl := blk_lt H3.out
    have HKK := hid (HKW.out.trans HKU.out)
    have hc := HC.out
    by_cases hlt : rankM i < rankM j
    · rw [if_pos hlt, Bool.and_eq_true] at hc
      obtain ⟨h5, h4⟩ := hc
      obtain ⟨c5, t5⟩ := isBin_eq h5
      obtain ⟨c4, t4⟩ := isBin_eq h4
      have t5 := text_is t5
      have t4 := text_is t4
      rw [c5] at e0
      rw [c4] at g0
      rw [t5] at e1
      rw [t4] at g1
      have r1 : (rankM i : Int) < (rankM j : Int) := by omega
      clear c5 c4 t5 t4 h5 h4 hlt f0 f1 f2 f3 f4 x0 x1 x2 x3 x4 y0 y1 y2 y3 y4 xl yl
      have e0 := cell_kp HKU.out hb e0
      have e1 := cell_kp HKU.out hb e1
      have e2 := cell_kp HKU.out hb e2
      have e3 := cell_kp HKU.out hb e3
      have e4 := cell_kp HKU.out hb e4
      have g0 := cell_kp HKU.out hb g0
      have g1 := cell_kp HKU.out hb g1
      have g2 := cell_kp HKU.out hb g2
      have g3 := cell_kp HKU.out hb g3
      have g4 := cell_kp HKU.out hb g4
      have hbU := Nat.lt_of_lt_of_le hb HKU.out.le
      go_upto_region 10 with first | (go_at_call 25; have _t := HRJ; go_must (refine (rank_any _ i HI.out.1 HI.out.2).mono ?_); rintro e wn ⟨rfl, hk⟩; have e0 := cell_kp hk hbU e0; have e1 := cell_kp hk hbU e1; have e2 := cell_kp hk hbU e2; have e3 := cell_kp hk hbU e3; have e4 := cell_kp hk hbU e4; have g0 := cell_kp hk hbU g0; have g1 := cell_kp hk hbU g1; have g2 := cell_kp hk hbU g2; have g3 := cell_kp hk hbU g3; have g4 := cell_kp hk hbU g4; have hbU := Nat.lt_of_lt_of_le hbU hk.le; have H5 := hid ((hk.block _ (blk_lt H5.out)).trans H5.out); have H3 := hid ((hk.block _ (blk_lt H3.out)).trans H3.out); have HKK := hid (HKK.out.trans hk); clear hk) | (go_at_call 25; go_must (refine (rank_any _ j HJ.out.1 HJ.out.2).mono ?_); rintro e wn ⟨rfl, hk⟩; have HRJ := hid hk; have e0 := cell_kp hk hbU e0; have e1 := cell_kp hk hbU e1; have e2 := cell_kp hk hbU e2; have e3 := cell_kp hk hbU e3; have e4 := cell_kp hk hbU e4; have g0 := cell_kp hk hbU g0; have g1 := cell_kp hk hbU g1; have g2 := cell_kp hk hbU g2; have g3 := cell_kp hk hbU g3; have g4 := cell_kp hk hbU g4; have hbU := Nat.lt_of_lt_of_le hbU hk.le; have H5 := hid ((hk.block _ (blk_lt H5.out)).trans H5.out); have H3 := hid ((hk.block _ (blk_lt H3.out)).trans H3.out); have HKK := hid (HKK.out.trans hk); clear hk)
      have x0 := blk_cell (o := 0) (v := (.int .i64 n5.kind : Value)) H5.out rfl
      have fx0 := blk_free (o := 0) H5.out
      have y0 := blk_cell (o := 0) (v := (.int .i64 n3.kind : Value)) H3.out rfl
      have fy0 := blk_free (o := 0) H3.out
      have x1 := blk_cell (o := 1) (v := (.string n5.text : Value)) H5.out rfl
      have fx1 := blk_free (o := 1) H5.out
      have y1 := blk_cell (o := 1) (v := (.string n3.text : Value)) H3.out rfl
      have fy1 := blk_free (o := 1) H3.out
      have x2 := blk_cell (o := 2) (v := (.string n5.type_ : Value)) H5.out rfl
      have fx2 := blk_free (o := 2) H5.out
      have y2 := blk_cell (o := 2) (v := (.string n3.type_ : Value)) H3.out rfl
      have fy2 := blk_free (o := 2) H3.out
      have x3 := blk_cell (o := 3) (v := (.int .i64 n5.num : Value)) H5.out rfl
      have fx3 := blk_free (o := 3) H5.out
      have y3 := blk_cell (o := 3) (v := (.int .i64 n3.num : Value)) H3.out rfl
      have fy3 := blk_free (o := 3) H3.out
      have x4 := blk_cell (o := 4) (v := (.slice B5 z5 d5 : Value)) H5.out rfl
      have fx4 := blk_free (o := 4) H5.out
      have y4 := blk_cell (o := 4) (v := (.slice B3 z3 d3 : Value)) H3.out rfl
      have fy4 := blk_free (o := 4) H3.out
      have hmm := HMM.out
      have nb1 : b ≠ m1 := by omega
      have nb2 : b ≠ m2 := by omega
      have nb3 : m1 ≠ b := by omega
      have nb4 : m2 ≠ b := by omega
      have ne2 : m2 ≠ m1 := by omega
      have ne1 : m1 ≠ m2 := by omega
      clear hmm
      go_region
      have hmm := HMM.out
      have hb5 := drew_heap ((fiveF (show m1 ≠ m2 by omega) (.int .i64 27) (.string (sgS j)) (.string n4.type_) (.int .i64 n4.num) (.slice B4 z4 d4)).trans (five H5.out (.int .i64 27) (.string (sgS i)) (.string n5.type_) (.int .i64 n5.num) (.slice B5 z5 d5)))
      have hb4 := drew_heap (five ((fiveF (show m2 ≠ m1 by omega) (.int .i64 27) (.string (sgS i)) (.string n5.type_) (.int .i64 n5.num) (.slice B5 z5 d5)).trans H3.out) (.int .i64 27) (.string (sgS j)) (.string n4.type_) (.int .i64 n4.num) (.slice B4 z4 d4))
      have hkp := (fiveK (fiveK HKK.out (show w.heap.size ≤ m1 by omega) (.int .i64 27) (.string (sgS i)) (.string n5.type_) (.int .i64 n5.num) (.slice B5 z5 d5)) (show w.heap.size ≤ m2 by omega) (.int .i64 27) (.string (sgS j)) (.string n4.type_) (.int .i64 n4.num) (.slice B4 z4 d4)).drew
      have HKK := hid hkp
      have HB5 := hid hb5
      have HB4 := hid hb4
      clear hkp hb5 hb4 hmm H5 H3 x0 x1 x2 x3 x4 y0 y1 y2 y3 y4 fx0 fx1 fx2 fx3 fx4 fy0 fy1 fy2 fy3 fy4 e0 e1 e2 e3 e4 g0 g1 g2 g3 g4 nb1 nb2 nb3 nb4 ne1 ne2 hbU HRJ hne
      generalize World.drew _ = W7 at HKK HB5 HB4 ⊢
      have x0 := blk_cell (o := 0) (v := (.int .i64 27 : Value)) HB5.out rfl
      have x1 := blk_cell (o := 1) (v := (.string (sgS i) : Value)) HB5.out rfl
      have y0 := blk_cell (o := 0) (v := (.int .i64 27 : Value)) HB4.out rfl
      have y1 := blk_cell (o := 1) (v := (.string (sgS j) : Value)) HB4.out rfl
      have xl := blk_lt HB5.out
      have yl := blk_lt HB4.out
      go_upto_region 15 with first | (go_at_call 25; have _t := HRK; go_must (refine (rank_any _ i HI.out.1 HI.out.2).mono ?_); rintro e wn ⟨rfl, hk⟩; have x0 := cell_kp hk xl x0; have x1 := cell_kp hk xl x1; have y0 := cell_kp hk yl y0; have y1 := cell_kp hk yl y1; have xl := Nat.lt_of_lt_of_le xl hk.le; have yl := Nat.lt_of_lt_of_le yl hk.le; have HKK := hid (HKK.out.trans hk); clear hk) | (go_at_call 25; go_must (refine (rank_any _ j HJ.out.1 HJ.out.2).mono ?_); rintro e wn ⟨rfl, hk⟩; have HRK := hid hk; have x0 := cell_kp hk xl x0; have x1 := cell_kp hk xl x1; have y0 := cell_kp hk yl y0; have y1 := cell_kp hk yl y1; have xl := Nat.lt_of_lt_of_le xl hk.le; have yl := Nat.lt_of_lt_of_le yl hk.le; have HKK := hid (HKK.out.trans hk); clear hk)
      go_wp2
      go_ret
      exact ⟨rfl, HKK.out⟩
    · rw [if_neg hlt, Bool.and_eq_true] at hc
      obtain ⟨h5, h3⟩ := hc
      obtain ⟨c5, t5⟩ := isBin_eq h5
      obtain ⟨c3', t3⟩ := isBin_eq h3
      have t5 := text_is t5
      have t3 := text_is t3
      rw [c5] at x0
      rw [c3'] at y0
      rw [t5] at x1
      rw [t3] at y1
      have r1 : ¬ (rankM i : Int) < (rankM j : Int) := by omega
      clear c5 c3' t5 t3 h5 h3 hlt e0 e1 e2 e3 e4 f0 f1 f2 f3 f4 g0 g1 g2 g3 g4 hne
      go_upto_region 13 with first | (go_at_call 25; have _t := HRJ; go_must (refine (rank_any _ i HI.out.1 HI.out.2).mono ?_); rintro e wn ⟨rfl, hk⟩; have x0 := cell_kp hk xl x0; have x1 := cell_kp hk xl x1; have y0 := cell_kp hk yl y0; have y1 := cell_kp hk yl y1; have xl := Nat.lt_of_lt_of_le xl hk.le; have yl := Nat.lt_of_lt_of_le yl hk.le; have HKK := hid (HKK.out.trans hk); clear hk) | (go_at_call 25; go_must (refine (rank_any _ j HJ.out.1 HJ.out.2).mono ?_); rintro e wn ⟨rfl, hk⟩; have HRJ := hid hk; have x0 := cell_kp hk xl x0; have x1 := cell_kp hk xl x1; have y0 := cell_kp hk yl y0; have y1 := cell_kp hk yl y1; have xl := Nat.lt_of_lt_of_le xl hk.le; have yl := Nat.lt_of_lt_of_le yl hk.le; have HKK := hid (HKK.out.trans hk); clear hk)
      clear HRJ
      have HSJ := hid (show True from trivial)
      cases hst : ((sgS j).toList == (sgS i).toList)
      all_goals
        go_upto_region 15 with first | (go_at_call 25; have _t := HRK; go_must (refine (rank_any _ i HI.out.1 HI.out.2).mono ?_); rintro e wn ⟨rfl, hk⟩; have x0 := cell_kp hk xl x0; have x1 := cell_kp hk xl x1; have y0 := cell_kp hk yl y0; have y1 := cell_kp hk yl y1; have xl := Nat.lt_of_lt_of_le xl hk.le; have yl := Nat.lt_of_lt_of_le yl hk.le; have HKK := hid (HKK.out.trans hk); clear hk) | (go_at_call 25; go_must (refine (rank_any _ j HJ.out.1 HJ.out.2).mono ?_); rintro e wn ⟨rfl, hk⟩; have HRK := hid hk; have x0 := cell_kp hk xl x0; have x1 := cell_kp hk xl x1; have y0 := cell_kp hk yl y0; have y1 := cell_kp hk yl y1; have xl := Nat.lt_of_lt_of_le xl hk.le; have yl := Nat.lt_of_lt_of_le yl hk.le; have HKK := hid (HKK.out.trans hk); clear hk)
        go_wp2
        go_ret
        exact ⟨rfl, HKK.out⟩
  · have HKU := hid (show Kp W5 (((W5.alloc (.cells #[.int .i64 n3.kind, .string n3.text, .string n3.type_, .int .i64 n3.num, .slice B3 z3 d3] 54)).alloc (.cells #[.int .i64 n5.kind, .string n5.text, .string n5.type_, .int .i64 n5.num, .slice B5 z5 d5] 54)).drew) from (((Kp.refl _).alloc _).alloc _).drew)
    have H5 := hid (show (((W5.alloc (.cells #[.int .i64 n3.kind, .string n3.text, .string n3.type_, .int .i64 n3.num, .slice B3 z3 d3] 54)).alloc (.cells #[.int .i64 n5.kind, .string n5.text, .string n5.type_, .int .i64 n5.num, .slice B5 z5 d5] 54)).drew).heap[W5.heap.size + 1]? = some (Obj.cells #[.int .i64 n5.kind, .string n5.text, .string n5.type_, .int .i64 n5.num, .slice B5 z5 d5] 54 (0, 0)) from blk_new2 _ _ _)
    have H3 := hid (show (((W5.alloc (.cells #[.int .i64 n3.kind, .string n3.text, .string n3.type_, .int .i64 n3.num, .slice B3 z3 d3] 54)).alloc (.cells #[.int .i64 n5.kind, .string n5.text, .string n5.type_, .int .i64 n5.num, .slice B5 z5 d5] 54)).drew).heap[W5.heap.size]? = some (Obj.cells #[.int .i64 n3.kind, .string n3.text, .string n3.type_, .int .i64 n3.num, .slice B3 z3 d3] 54 (0, 0)) from blk_old (blk_new _ _) _)
    have hne : W5.heap.size + 1 ≠ W5.heap.size := by omega
    generalize ((W5.alloc (.cells #[.int .i64 n3.kind, .string n3.text, .string n3.type_, .int .i64 n3.num, .slice B3 z3 d3] 54)).alloc (.cells #[.int .i64 n5.kind, .string n5.text, .string n5.type_, .int .i64 n5.num, .slice B5 z5 d5] 54)).drew = W6 at HKU H5 H3 ⊢
    have hbs := hb
    obtain ⟨m2, hm2⟩ : ∃ m, W5.heap.size + 1 = m := ⟨_, rfl⟩
    obtain ⟨m1, hm1⟩ : ∃ m, W5.heap.size = m := ⟨_, rfl⟩
    have HMM := hid (show b < m1 ∧ b < m2 ∧ m1 ≠ m2 ∧ w.heap.size ≤ m1 ∧ w.heap.size ≤ m2 by have := HKW.out.le; omega)
    simp only [hm2] at H5 H3 hne ⊢
    simp only [hm1] at H5 H3 hne ⊢
    clear hbs hm1 hm2
    have x0 := blk_cell (o := 0) (v := (.int .i64 n5.kind : Value)) H5.out rfl
    have x1 := blk_cell (o := 1) (v := (.string n5.text : Value)) H5.out rfl
    have x2 := blk_cell (o := 2) (v := (.string n5.type_ : Value)) H5.out rfl
    have x3 := blk_cell (o := 3) (v := (.int .i64 n5.num : Value)) H5.out rfl
    have x4 := blk_cell (o := 4) (v := (.slice B5 z5 d5 : Value)) H5.out rfl
    have y0 := blk_cell (o := 0) (v := (.int .i64 n3.kind : Value)) H3.out rfl
    have y1 := blk_cell (o := 1) (v := (.string n3.text : Value)) H3.out rfl
    have y2 := blk_cell (o := 2) (v := (.string n3.type_ : Value)) H3.out rfl
    have y3 := blk_cell (o := 3) (v := (.int .i64 n3.num : Value)) H3.out rfl
    have y4 := blk_cell (o := 4) (v := (.slice B3 z3 d3 : Value)) H3.out rfl
    have xl := blk_lt H5.out
    have yl := blk_lt H3.out
    have HKK := hid (HKW.out.trans HKU.out)
    have hc := HC.out
    by_cases hlt : rankM i < rankM j
    · rw [if_pos hlt, Bool.and_eq_true] at hc
      obtain ⟨h5, h4⟩ := hc
      obtain ⟨c5, t5⟩ := isBin_eq h5
      obtain ⟨c4, t4⟩ := isBin_eq h4
      have t5 := text_is t5
      have t4 := text_is t4
      rw [c5] at e0
      rw [c4] at g0
      rw [t5] at e1
      rw [t4] at g1
      have r1 : (rankM i : Int) < (rankM j : Int) := by omega
      clear c5 c4 t5 t4 h5 h4 hlt f0 f1 f2 f3 f4 x0 x1 x2 x3 x4 y0 y1 y2 y3 y4 xl yl
      have e0 := cell_kp HKU.out hb e0
      have e1 := cell_kp HKU.out hb e1
      have e2 := cell_kp HKU.out hb e2
      have e3 := cell_kp HKU.out hb e3
      have e4 := cell_kp HKU.out hb e4
      have g0 := cell_kp HKU.out hb g0
      have g1 := cell_kp HKU.out hb g1
      have g2 := cell_kp HKU.out hb g2
      have g3 := cell_kp HKU.out hb g3
      have g4 := cell_kp HKU.out hb g4
      have hbU := Nat.lt_of_lt_of_le hb HKU.out.le
      go_upto_region 10 with first | (go_at_call 25; have _t := HRJ; go_must (refine (rank_any _ i HI.out.1 HI.out.2).mono ?_); rintro e wn ⟨rfl, hk⟩; have e0 := cell_kp hk hbU e0; have e1 := cell_kp hk hbU e1; have e2 := cell_kp hk hbU e2; have e3 := cell_kp hk hbU e3; have e4 := cell_kp hk hbU e4; have g0 := cell_kp hk hbU g0; have g1 := cell_kp hk hbU g1; have g2 := cell_kp hk hbU g2; have g3 := cell_kp hk hbU g3; have g4 := cell_kp hk hbU g4; have hbU := Nat.lt_of_lt_of_le hbU hk.le; have H5 := hid ((hk.block _ (blk_lt H5.out)).trans H5.out); have H3 := hid ((hk.block _ (blk_lt H3.out)).trans H3.out); have HKK := hid (HKK.out.trans hk); clear hk) | (go_at_call 25; go_must (refine (rank_any _ j HJ.out.1 HJ.out.2).mono ?_); rintro e wn ⟨rfl, hk⟩; have HRJ := hid hk; have e0 := cell_kp hk hbU e0; have e1 := cell_kp hk hbU e1; have e2 := cell_kp hk hbU e2; have e3 := cell_kp hk hbU e3; have e4 := cell_kp hk hbU e4; have g0 := cell_kp hk hbU g0; have g1 := cell_kp hk hbU g1; have g2 := cell_kp hk hbU g2; have g3 := cell_kp hk hbU g3; have g4 := cell_kp hk hbU g4; have hbU := Nat.lt_of_lt_of_le hbU hk.le; have H5 := hid ((hk.block _ (blk_lt H5.out)).trans H5.out); have H3 := hid ((hk.block _ (blk_lt H3.out)).trans H3.out); have HKK := hid (HKK.out.trans hk); clear hk)
      have x0 := blk_cell (o := 0) (v := (.int .i64 n5.kind : Value)) H5.out rfl
      have fx0 := blk_free (o := 0) H5.out
      have y0 := blk_cell (o := 0) (v := (.int .i64 n3.kind : Value)) H3.out rfl
      have fy0 := blk_free (o := 0) H3.out
      have x1 := blk_cell (o := 1) (v := (.string n5.text : Value)) H5.out rfl
      have fx1 := blk_free (o := 1) H5.out
      have y1 := blk_cell (o := 1) (v := (.string n3.text : Value)) H3.out rfl
      have fy1 := blk_free (o := 1) H3.out
      have x2 := blk_cell (o := 2) (v := (.string n5.type_ : Value)) H5.out rfl
      have fx2 := blk_free (o := 2) H5.out
      have y2 := blk_cell (o := 2) (v := (.string n3.type_ : Value)) H3.out rfl
      have fy2 := blk_free (o := 2) H3.out
      have x3 := blk_cell (o := 3) (v := (.int .i64 n5.num : Value)) H5.out rfl
      have fx3 := blk_free (o := 3) H5.out
      have y3 := blk_cell (o := 3) (v := (.int .i64 n3.num : Value)) H3.out rfl
      have fy3 := blk_free (o := 3) H3.out
      have x4 := blk_cell (o := 4) (v := (.slice B5 z5 d5 : Value)) H5.out rfl
      have fx4 := blk_free (o := 4) H5.out
      have y4 := blk_cell (o := 4) (v := (.slice B3 z3 d3 : Value)) H3.out rfl
      have fy4 := blk_free (o := 4) H3.out
      have hmm := HMM.out
      have nb1 : b ≠ m1 := by omega
      have nb2 : b ≠ m2 := by omega
      have nb3 : m1 ≠ b := by omega
      have nb4 : m2 ≠ b := by omega
      have ne2 : m2 ≠ m1 := by omega
      have ne1 : m1 ≠ m2 := by omega
      clear hmm
      go_region
      have hmm := HMM.out
      have hb5 := drew_heap ((fiveF (show m2 ≠ m1 by omega) (.int .i64 27) (.string (sgS j)) (.string n4.type_) (.int .i64 n4.num) (.slice B4 z4 d4)).trans (five H5.out (.int .i64 27) (.string (sgS i)) (.string n5.type_) (.int .i64 n5.num) (.slice B5 z5 d5)))
      have hb4 := drew_heap (five ((fiveF (show m1 ≠ m2 by omega) (.int .i64 27) (.string (sgS i)) (.string n5.type_) (.int .i64 n5.num) (.slice B5 z5 d5)).trans H3.out) (.int .i64 27) (.string (sgS j)) (.string n4.type_) (.int .i64 n4.num) (.slice B4 z4 d4))
      have hkp := (fiveK (fiveK HKK.out (show w.heap.size ≤ m2 by omega) (.int .i64 27) (.string (sgS i)) (.string n5.type_) (.int .i64 n5.num) (.slice B5 z5 d5)) (show w.heap.size ≤ m1 by omega) (.int .i64 27) (.string (sgS j)) (.string n4.type_) (.int .i64 n4.num) (.slice B4 z4 d4)).drew
      have HKK := hid hkp
      have HB5 := hid hb5
      have HB4 := hid hb4
      clear hkp hb5 hb4 hmm H5 H3 x0 x1 x2 x3 x4 y0 y1 y2 y3 y4 fx0 fx1 fx2 fx3 fx4 fy0 fy1 fy2 fy3 fy4 e0 e1 e2 e3 e4 g0 g1 g2 g3 g4 nb1 nb2 nb3 nb4 ne1 ne2 hbU HRJ hne
      generalize World.drew _ = W7 at HKK HB5 HB4 ⊢
      have x0 := blk_cell (o := 0) (v := (.int .i64 27 : Value)) HB5.out rfl
      have x1 := blk_cell (o := 1) (v := (.string (sgS i) : Value)) HB5.out rfl
      have y0 := blk_cell (o := 0) (v := (.int .i64 27 : Value)) HB4.out rfl
      have y1 := blk_cell (o := 1) (v := (.string (sgS j) : Value)) HB4.out rfl
      have xl := blk_lt HB5.out
      have yl := blk_lt HB4.out
      go_upto_region 15 with first | (go_at_call 25; have _t := HRK; go_must (refine (rank_any _ i HI.out.1 HI.out.2).mono ?_); rintro e wn ⟨rfl, hk⟩; have x0 := cell_kp hk xl x0; have x1 := cell_kp hk xl x1; have y0 := cell_kp hk yl y0; have y1 := cell_kp hk yl y1; have xl := Nat.lt_of_lt_of_le xl hk.le; have yl := Nat.lt_of_lt_of_le yl hk.le; have HKK := hid (HKK.out.trans hk); clear hk) | (go_at_call 25; go_must (refine (rank_any _ j HJ.out.1 HJ.out.2).mono ?_); rintro e wn ⟨rfl, hk⟩; have HRK := hid hk; have x0 := cell_kp hk xl x0; have x1 := cell_kp hk xl x1; have y0 := cell_kp hk yl y0; have y1 := cell_kp hk yl y1; have xl := Nat.lt_of_lt_of_le xl hk.le; have yl := Nat.lt_of_lt_of_le yl hk.le; have HKK := hid (HKK.out.trans hk); clear hk)
      go_wp2
      go_ret
      exact ⟨rfl, HKK.out⟩
    · rw [if_neg hlt, Bool.and_eq_true] at hc
      obtain ⟨h5, h3⟩ := hc
      obtain ⟨c5, t5⟩ := isBin_eq h5
      obtain ⟨c3', t3⟩ := isBin_eq h3
      have t5 := text_is t5
      have t3 := text_is t3
      rw [c5] at x0
      rw [c3'] at y0
      rw [t5] at x1
      rw [t3] at y1
      have r1 : ¬ (rankM i : Int) < (rankM j : Int) := by omega
      clear c5 c3' t5 t3 h5 h3 hlt e0 e1 e2 e3 e4 f0 f1 f2 f3 f4 g0 g1 g2 g3 g4 hne
      go_upto_region 13 with first | (go_at_call 25; have _t := HRJ; go_must (refine (rank_any _ i HI.out.1 HI.out.2).mono ?_); rintro e wn ⟨rfl, hk⟩; have x0 := cell_kp hk xl x0; have x1 := cell_kp hk xl x1; have y0 := cell_kp hk yl y0; have y1 := cell_kp hk yl y1; have xl := Nat.lt_of_lt_of_le xl hk.le; have yl := Nat.lt_of_lt_of_le yl hk.le; have HKK := hid (HKK.out.trans hk); clear hk) | (go_at_call 25; go_must (refine (rank_any _ j HJ.out.1 HJ.out.2).mono ?_); rintro e wn ⟨rfl, hk⟩; have HRJ := hid hk; have x0 := cell_kp hk xl x0; have x1 := cell_kp hk xl x1; have y0 := cell_kp hk yl y0; have y1 := cell_kp hk yl y1; have xl := Nat.lt_of_lt_of_le xl hk.le; have yl := Nat.lt_of_lt_of_le yl hk.le; have HKK := hid (HKK.out.trans hk); clear hk)
      clear HRJ
      have HSJ := hid (show True from trivial)
      cases hst : ((sgS j).toList == (sgS i).toList)
      all_goals
        go_upto_region 15 with first | (go_at_call 25; have _t := HRK; go_must (refine (rank_any _ i HI.out.1 HI.out.2).mono ?_); rintro e wn ⟨rfl, hk⟩; have x0 := cell_kp hk xl x0; have x1 := cell_kp hk xl x1; have y0 := cell_kp hk yl y0; have y1 := cell_kp hk yl y1; have xl := Nat.lt_of_lt_of_le xl hk.le; have yl := Nat.lt_of_lt_of_le yl hk.le; have HKK := hid (HKK.out.trans hk); clear hk) | (go_at_call 25; go_must (refine (rank_any _ j HJ.out.1 HJ.out.2).mono ?_); rintro e wn ⟨rfl, hk⟩; have HRK := hid hk; have x0 := cell_kp hk xl x0; have x1 := cell_kp hk xl x1; have y0 := cell_kp hk yl y0; have y1 := cell_kp hk yl y1; have xl := Nat.lt_of_lt_of_le xl hk.le; have yl := Nat.lt_of_lt_of_le yl hk.le; have HKK := hid (HKK.out.trans hk); clear hk)
        go_wp2
        go_ret
        exact ⟨rfl, HKK.out⟩
/-! ### The row's step (the guide's frame, written by program) -/
set_option maxRecDepth 100000 in
theorem lifted (os : Os) (started : os.Started) (H : Type) (enc : TypeId × Value → H) :
    ReturnsInHanded {} Try.checked os 7 .any (Rows.parseRanksSpec.pre6 enc Try.prog Try.f7 Rows.parseRanksRow.domain false) (Rows.parseRanksSpec.post enc Try.prog Try.f7 false true false false) := by
  refine returnsInHanded_of_change_sized (C := Try.checked) own started (by kernel_rfl) Try.func7
    (ChangeSpec.witness6 (enc := enc) (C := Try.checked) false ⟨#[], #[.int .i64 0, .int .i64 0], []⟩ 8 (by kernel_rfl) (by kernel_rfl) (by kernel_rfl) (by kernel_rfl)) ?_
  intro W base args ds gs before hval0 hW _ hsz0 _
  have hsz : (DataW.weightsEach Try.prog (Try.f7.params.toList ++ Rows.parseRanksSpec.plain.varTypes Try.prog) (ds ++ gs)).all (· ≤ reachBytes) = true := hsz0
  clear hsz0
  have hval : ∀ (j : Nat) t v, Try.f7.params[j]? = some t → args[j]? = some v → Value.okWide Try.prog W .any base t v := hval0
  have hW' := hW
  obtain ⟨p, q, hA0, hV, rfl, hfz, hnd⟩ := hW
  have hA : DataW.TrodAll enc Try.prog W 0 (fun _ => true) true Try.f7.params.toList args.toList ds p := hA0
  rw [Try.params7] at hA hval hsz
  obtain ⟨v0, vs0, d0, ds0, p0, q0, hargs, rfl, rfl, h0, r0⟩ := trodAll_cons hA
  obtain ⟨v1, vs1, d1, ds1, p1, q1, rfl, rfl, rfl, h1, r1⟩ := trodAll_cons r0
  obtain ⟨rfl, rfl, rfl⟩ := trodAll_nil r1
  obtain rfl : args = #[v0, v1] := by cases args; simp_all
  obtain ⟨rfl, rfl⟩ := trodVars_none hV
  have k0 := h0
  have lt0 : ∀ x ∈ p0, x.block < W.heap.size := by obtain ⟨m, hm⟩ := k0; exact DataW.trod_lt m _ _ _ hm
  obtain ⟨a0, rfl, rfl, rfl, w0⟩ := open_int Try.underlying3 (hval 0 3 v0 rfl rfl) h0
  have k1 := h1
  have lt1 : ∀ x ∈ p1, x.block < W.heap.size := by obtain ⟨m, hm⟩ := k1; exact DataW.trod_lt m _ _ _ hm
  obtain ⟨a1, rfl, rfl, rfl, w1⟩ := open_int Try.underlying3 (hval 1 3 v1 rfl rfl) h1
  clear hA0 hval0
  simp only [List.append_nil] at hW'
  refine (walk a0 a1 W w0 w1).mono fun e W' ⟨he, bel⟩ => ?_
  subst he
  exact ⟨_, rfl, _, _, _, [], _, [], hW', trodAll_mk1 (shut_bool Try.underlying4 _), (trodAll_cons_mk (Below.trod laidOut (by kernel_rfl) (of_decide_eq_true (by kernel_rfl)) k0 bel lt0) (trodAll_cons_mk (Below.trod laidOut (by kernel_rfl) (of_decide_eq_true (by kernel_rfl)) k1 bel lt1) trodAll_mk0)), rfl, Below.frame bel _, fun h => by cases h⟩

theorem over : Rows.parseRanksRow.holds Try.pinned (OpenSpec.ofChange Rows.parseRanksSpec) :=
  OpenClaim.holds_of_wide 7 Try.f7 rfl rfl rfl rfl rfl rfl rfl ⟨rfl, rfl, rfl, rfl, rfl⟩ rfl rfl rfl rfl rfl (by kernel_rfl) Try.func7 (by kernel_rfl)
    (of_decide_eq_true (by kernel_rfl)) (by unfold Func.isWrapper; rw [if_neg (of_decide_eq_false (by kernel_rfl))]; exact ⟨rfl, rfl⟩)
    (fun os started H enc _ => lifted os started H enc)

/-- THE STATEMENT. -/
theorem proved : Rows.ParseRanksSaid := over
#print axioms proved

end Go.Proofs.Ytgonekmmbeedeaa.parseRanks
