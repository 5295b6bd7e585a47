/-
  Package fault: guess, Read. Condition: the text is short; a global number of the library is there.
-/
import Derived.Test.YtiicdknmoakocaaDoorFltN
namespace Go.Proofs.YtiicdknmoakocaaDoor
open Go.RowKit
set_option linter.unusedVariables false
set_option linter.unusedSimpArgs false

theorem form1_is : (Lib.splitB ⟨#[35]⟩ 0 (Lib.countB ⟨#[114, 117, 110, 116, 105, 109, 101, 32, 101, 114, 114, 111, 114, 58, 32, 105, 110, 100, 101, 120, 32, 111, 117, 116, 32, 111, 102, 32, 114, 97, 110, 103, 101, 32, 91, 35, 93, 32, 119, 105, 116, 104, 32, 108, 101, 110, 103, 116, 104, 32, 35]⟩ ⟨#[35]⟩) ⟨#[114, 117, 110, 116, 105, 109, 101, 32, 101, 114, 114, 111, 114, 58, 32, 105, 110, 100, 101, 120, 32, 111, 117, 116, 32, 111, 102, 32, 114, 97, 110, 103, 101, 32, 91, 35, 93, 32, 119, 105, 116, 104, 32, 108, 101, 110, 103, 116, 104, 32, 35]⟩).map (·.data.toList) = fP1 := by kernel_rfl
theorem form2_is : (Lib.splitB ⟨#[35]⟩ 0 (Lib.countB ⟨#[114, 117, 110, 116, 105, 109, 101, 32, 101, 114, 114, 111, 114, 58, 32, 108, 101, 110, 103, 116, 104, 32, 35, 32, 105, 115, 32, 97, 98, 111, 118, 101, 32, 35]⟩ ⟨#[35]⟩) ⟨#[114, 117, 110, 116, 105, 109, 101, 32, 101, 114, 114, 111, 114, 58, 32, 108, 101, 110, 103, 116, 104, 32, 35, 32, 105, 115, 32, 97, 98, 111, 118, 101, 32, 35]⟩).map (·.data.toList) = fP2 := by kernel_rfl
theorem form3_is : (Lib.splitB ⟨#[35]⟩ 0 (Lib.countB ⟨#[114, 117, 110, 116, 105, 109, 101, 32, 101, 114, 114, 111, 114, 58, 32, 115, 108, 105, 99, 101, 32, 98, 111, 117, 110, 100, 115, 32, 111, 117, 116, 32, 111, 102, 32, 114, 97, 110, 103, 101, 32, 91, 58, 35, 93, 32, 119, 105, 116, 104, 32, 108, 101, 110, 103, 116, 104, 32, 35]⟩ ⟨#[35]⟩) ⟨#[114, 117, 110, 116, 105, 109, 101, 32, 101, 114, 114, 111, 114, 58, 32, 115, 108, 105, 99, 101, 32, 98, 111, 117, 110, 100, 115, 32, 111, 117, 116, 32, 111, 102, 32, 114, 97, 110, 103, 101, 32, 91, 58, 35, 93, 32, 119, 105, 116, 104, 32, 108, 101, 110, 103, 116, 104, 32, 35]⟩).map (·.data.toList) = fP3 := by kernel_rfl
theorem form4_is : (Lib.splitB ⟨#[35]⟩ 0 (Lib.countB ⟨#[114, 117, 110, 116, 105, 109, 101, 32, 101, 114, 114, 111, 114, 58, 32, 115, 108, 105, 99, 101, 32, 98, 111, 117, 110, 100, 115, 32, 111, 117, 116, 32, 111, 102, 32, 114, 97, 110, 103, 101, 32, 91, 35, 58, 35, 93]⟩ ⟨#[35]⟩) ⟨#[114, 117, 110, 116, 105, 109, 101, 32, 101, 114, 114, 111, 114, 58, 32, 115, 108, 105, 99, 101, 32, 98, 111, 117, 110, 100, 115, 32, 111, 117, 116, 32, 111, 102, 32, 114, 97, 110, 103, 101, 32, 91, 35, 58, 35, 93]⟩).map (·.data.toList) = fP4 := by kernel_rfl
theorem form5_is : (Lib.splitB ⟨#[35]⟩ 0 (Lib.countB ⟨#[114, 117, 110, 116, 105, 109, 101, 32, 101, 114, 114, 111, 114, 58, 32, 115, 108, 105, 99, 101, 32, 98, 111, 117, 110, 100, 115, 32, 111, 117, 116, 32, 111, 102, 32, 114, 97, 110, 103, 101, 32, 91, 35, 58, 93]⟩ ⟨#[35]⟩) ⟨#[114, 117, 110, 116, 105, 109, 101, 32, 101, 114, 114, 111, 114, 58, 32, 115, 108, 105, 99, 101, 32, 98, 111, 117, 110, 100, 115, 32, 111, 117, 116, 32, 111, 102, 32, 114, 97, 110, 103, 101, 32, 91, 35, 58, 93]⟩).map (·.data.toList) = fP5 := by kernel_rfl
theorem num_no {s form : ByteArray} {PS : List (List UInt8)} {w : World} (hc : Calls Tryd.prog 28 #[.string s, .string form] w (NmPost PS s.data.toList w)) (h : numbersM PS s.data.toList = none) : Calls Tryd.prog 28 #[.string s, .string form] w fun e w' => (∃ A n c, e = .returned (.tuple #[.slice A n c, .bool false])) ∧ Kp w w' := by
  refine hc.mono ?_
  rintro e w' ⟨⟨A, n, c, he, _⟩, hk⟩
  rw [h] at he
  exact ⟨⟨A, n, c, he⟩, hk⟩
theorem num_yes2 {s form : ByteArray} {PS : List (List UInt8)} {w : World} {l : List Int} (hc : Calls Tryd.prog 28 #[.string s, .string form] w (NmPost PS s.data.toList w)) (h : numbersM PS s.data.toList = some l) (hl : l.length = 2) : Calls Tryd.prog 28 #[.string s, .string form] w fun e w' => (∃ b o c, e = .returned (.tuple #[.slice (some ⟨b, o, none⟩) 2 c, .bool true]) ∧ b < w'.heap.size ∧ w'.cell? ⟨b, o, none⟩ = some (.int .i64 (l.getD 0 0)) ∧ w'.cell? ⟨b, o + 1, none⟩ = some (.int .i64 (l.getD 1 0))) ∧ Kp w w' := by
  refine hc.mono ?_
  rintro e w' ⟨⟨A, n, c, he, hr⟩, hk⟩
  rw [h] at he
  obtain ⟨_, _, A', c', e2, _, hcell⟩ := hr l h
  injection e2 with e3 e4 e5
  subst e3; subst e4
  obtain ⟨b, o, rfl, hb, hx⟩ := hcell (by omega)
  have h0 := hx 0 (by omega)
  have h1 := hx 1 (by omega)
  rw [hl] at he
  exact ⟨⟨b, o, c, he, hb, h0, h1⟩, hk⟩
theorem num_yes1 {s form : ByteArray} {PS : List (List UInt8)} {w : World} {l : List Int} (hc : Calls Tryd.prog 28 #[.string s, .string form] w (NmPost PS s.data.toList w)) (h : numbersM PS s.data.toList = some l) (hl : l.length = 1) : Calls Tryd.prog 28 #[.string s, .string form] w fun e w' => (∃ b o c, e = .returned (.tuple #[.slice (some ⟨b, o, none⟩) 1 c, .bool true]) ∧ b < w'.heap.size ∧ w'.cell? ⟨b, o, none⟩ = some (.int .i64 (l.getD 0 0))) ∧ Kp w w' := by
  refine hc.mono ?_
  rintro e w' ⟨⟨A, n, c, he, hr⟩, hk⟩
  rw [h] at he
  obtain ⟨_, _, A', c', e2, _, hcell⟩ := hr l h
  injection e2 with e3 e4 e5
  subst e3; subst e4
  obtain ⟨b, o, rfl, hb, hx⟩ := hcell (by omega)
  have h0 := hx 0 (by omega)
  rw [hl] at he
  exact ⟨⟨b, o, c, he, hb, h0⟩, hk⟩
theorem fixedK_hit {s : List UInt8} {k : Nat} (h1 : 1 ≤ k) (h8 : k ≤ 8) (h : fixedM (k : Int) = s) (hn : ∀ j : Nat, 1 ≤ j → j < k → fixedM (j : Int) ≠ s) : fixedK s = (k : Int) := by
  have hk : k = 1 ∨ k = 2 ∨ k = 3 ∨ k = 4 ∨ k = 5 ∨ k = 6 ∨ k = 7 ∨ k = 8 := by omega
  subst h
  rcases hk with rfl | rfl | rfl | rfl | rfl | rfl | rfl | rfl
  · rfl
  · decide
  · decide
  · decide
  · exact absurd rfl (hn 1 (by omega) (by omega))
  · decide
  · exact absurd rfl (hn 1 (by omega) (by omega))
  · decide
theorem fixedK_miss {s : List UInt8} (hn : ∀ j : Nat, 1 ≤ j → j < 9 → fixedM (j : Int) ≠ s) : fixedK s = 0 := by
  unfold fixedK
  rw [if_neg (fun h => hn 1 (by omega) (by omega) (by rw [h]; rfl)), if_neg (fun h => hn 2 (by omega) (by omega) (by rw [h]; rfl)), if_neg (fun h => hn 3 (by omega) (by omega) (by rw [h]; rfl)), if_neg (fun h => hn 4 (by omega) (by omega) (by rw [h]; rfl)), if_neg (fun h => hn 6 (by omega) (by omega) (by rw [h]; rfl)), if_neg (fun h => hn 8 (by omega) (by omega) (by rw [h]; rfl))]
def FB (w : World) (b : Nat) (k x y z : Int) : Prop := w.heap[b]? = some (.cells #[.int .i64 k, .int .i64 x, .int .i64 y, .int .i64 z] 23 (0, 0))
theorem FB.kp {w w' : World} {b : Nat} {k x y z : Int} (h : FB w b k x y z) (hk : Kp w w') : FB w' b k x y z := (hk.block b (blk_lt h)).trans h
theorem FB.cells {w : World} {b : Nat} {k x y z : Int} (h : FB w b k x y z) : w.cell? ⟨b, 0, none⟩ = some (.int .i64 k) ∧ w.cell? ⟨b, 1, none⟩ = some (.int .i64 x) ∧ w.cell? ⟨b, 2, none⟩ = some (.int .i64 y) ∧ w.cell? ⟨b, 3, none⟩ = some (.int .i64 z) ∧ ∀ j, w.frozen? ⟨b, j, none⟩ = false := ⟨blk_cell h rfl, blk_cell h rfl, blk_cell h rfl, blk_cell h rfl, fun j => blk_free h⟩
theorem FB.set {w u : World} {b : Nat} {k x y z : Int} (h : FB u b k x y z) (k' x' y' z' : Int) (hk : Kp w u) (hb : w.heap.size ≤ b) : FB ((((u.setCell ⟨b, 0, none⟩ (.int .i64 k')).setCell ⟨b, 1, none⟩ (.int .i64 x')).setCell ⟨b, 2, none⟩ (.int .i64 y')).setCell ⟨b, 3, none⟩ (.int .i64 z')) b k' x' y' z' ∧ Kp w ((((u.setCell ⟨b, 0, none⟩ (.int .i64 k')).setCell ⟨b, 1, none⟩ (.int .i64 x')).setCell ⟨b, 2, none⟩ (.int .i64 y')).setCell ⟨b, 3, none⟩ (.int .i64 z')) :=
  ⟨blk_set (blk_set (blk_set (blk_set h _) _) _) _, (((hk.setCell (p := ⟨b, 0, none⟩) hb _).setCell (p := ⟨b, 1, none⟩) hb _).setCell (p := ⟨b, 2, none⟩) hb _).setCell (p := ⟨b, 3, none⟩) hb _⟩
theorem FB.drewN {w : World} {b : Nat} {k x y z : Int} (h : FB w b k x y z) (n : Nat) : FB (w.drewN n) b k x y z := h.kp ((Kp.refl w).drewN n)
set_option maxRecDepth 20000 in
set_option maxHeartbeats 8000000 in
theorem guess_any (s : ByteArray) (hs : s.size ≤ 1000000) (m : Int) (w : World) (hm : w.cell? ⟨0, 0, none⟩ = some (.int .i64 m)) : Calls Tryd.prog 18 #[.string s] w fun e w' => e = .returned (fAgg (guessM s.data.toList)) ∧ Kp w w' := by
  have hm0 := block_lt_of_cell hm
  have HN1 := hid (fun (u : World) (hu : Kp w u) => numbers_any s ⟨#[114, 117, 110, 116, 105, 109, 101, 32, 101, 114, 114, 111, 114, 58, 32, 105, 110, 100, 101, 120, 32, 111, 117, 116, 32, 111, 102, 32, 114, 97, 110, 103, 101, 32, 91, 35, 93, 32, 119, 105, 116, 104, 32, 108, 101, 110, 103, 116, 104, 32, 35]⟩ fP1 form1_is (by decide) (by decide) hs (by decide) m u (cell_kp hu hm0 hm))
  have HN2 := hid (fun (u : World) (hu : Kp w u) => numbers_any s ⟨#[114, 117, 110, 116, 105, 109, 101, 32, 101, 114, 114, 111, 114, 58, 32, 108, 101, 110, 103, 116, 104, 32, 35, 32, 105, 115, 32, 97, 98, 111, 118, 101, 32, 35]⟩ fP2 form2_is (by decide) (by decide) hs (by decide) m u (cell_kp hu hm0 hm))
  have HN3 := hid (fun (u : World) (hu : Kp w u) => numbers_any s ⟨#[114, 117, 110, 116, 105, 109, 101, 32, 101, 114, 114, 111, 114, 58, 32, 115, 108, 105, 99, 101, 32, 98, 111, 117, 110, 100, 115, 32, 111, 117, 116, 32, 111, 102, 32, 114, 97, 110, 103, 101, 32, 91, 58, 35, 93, 32, 119, 105, 116, 104, 32, 108, 101, 110, 103, 116, 104, 32, 35]⟩ fP3 form3_is (by decide) (by decide) hs (by decide) m u (cell_kp hu hm0 hm))
  have HN4 := hid (fun (u : World) (hu : Kp w u) => numbers_any s ⟨#[114, 117, 110, 116, 105, 109, 101, 32, 101, 114, 114, 111, 114, 58, 32, 115, 108, 105, 99, 101, 32, 98, 111, 117, 110, 100, 115, 32, 111, 117, 116, 32, 111, 102, 32, 114, 97, 110, 103, 101, 32, 91, 35, 58, 35, 93]⟩ fP4 form4_is (by decide) (by decide) hs (by decide) m u (cell_kp hu hm0 hm))
  have HN5 := hid (fun (u : World) (hu : Kp w u) => numbers_any s ⟨#[114, 117, 110, 116, 105, 109, 101, 32, 101, 114, 114, 111, 114, 58, 32, 115, 108, 105, 99, 101, 32, 98, 111, 117, 110, 100, 115, 32, 111, 117, 116, 32, 111, 102, 32, 114, 97, 110, 103, 101, 32, 91, 35, 58, 93]⟩ fP5 form5_is (by decide) (by decide) hs (by decide) m u (cell_kp hu hm0 hm))
  have HB := hid (show FB (w.alloc (.cells #[.int .i64 0, .int .i64 0, .int .i64 0, .int .i64 0] 23)) w.heap.size 0 0 0 0 from blk_new _ _)
  have HK := hid (show Kp w (w.alloc (.cells #[.int .i64 0, .int .i64 0, .int .i64 0, .int .i64 0] 23)) from (Kp.refl w).alloc _)
  clear hs hm hm0
  go_enter Tryd.func18, Tryd.ntmps18
  go_upto_region 1 with fail
  generalize (w.alloc (.cells #[.int .i64 0, .int .i64 0, .int .i64 0, .int .i64 0] 23)) = W0 at HB HK ⊢
  cases h1 : numbersM fP1 s.data.toList with
  | some l =>
    have HG := hid (show guessM s.data.toList = ⟨1, l.getD 0 0, l.getD 1 0, 0⟩ by unfold guessM; rw [h1])
    have HC := hid (num_yes2 (HN1.out W0 HK.out) h1 (numbers_ok h1).2)
    obtain ⟨a, ha⟩ : ∃ a, l.getD 0 0 = a := ⟨_, rfl⟩
    obtain ⟨b', hb'⟩ : ∃ b', l.getD 1 0 = b' := ⟨_, rfl⟩
    rw [ha, hb'] at HC HG
    clear h1 ha hb'
    go_upto_region 3 with (go_at_call 28; go_must (refine HC.out.mono ?_); rintro e u1 ⟨⟨b, o, c, rfl, hb, q0, q1⟩, hk1⟩; have HK1 := hid ((HK.out).trans hk1); have HBU := hid (HB.out.kp (Kp.trans (Kp.refl W0) hk1)); clear hk1)
    obtain ⟨b0, b1, b2, b3, bf⟩ := HBU.out.cells
    have hbl := blk_lt HBU.out
    have HS := hid (HBU.out.set 1 a b' 0 HK1.out (Nat.le_refl _))
    go_region
    go_wp2
    clear b0 b1 b2 b3 bf q0 q1
    generalize ((((u1.setCell ⟨w.heap.size, 0, none⟩ (.int .i64 1)).setCell ⟨w.heap.size, 1, none⟩ (.int .i64 a)).setCell ⟨w.heap.size, 2, none⟩ (.int .i64 b')).setCell ⟨w.heap.size, 3, none⟩ (.int .i64 0)) = WE at HS ⊢
    obtain ⟨a0, a1, a2, a3, _⟩ := HS.out.1.cells
    exact bodyPost_ret (v := .agg #[.int .i64 1, .int .i64 a, .int .i64 b', .int .i64 0]) (by simp [results, Tryd.results18, go_sem, a0, a1, a2, a3]) rfl ⟨by rw [HG.out]; rfl, HS.out.2.drew⟩
  | none =>
    have HC := hid (num_no (HN1.out W0 HK.out) h1)
    go_upto_region 4 with (go_at_call 28; go_must (refine HC.out.mono ?_); rintro e w1 ⟨⟨A1, n1, c1, rfl⟩, hk1⟩; have HK1 := hid ((HK.out).trans hk1); have HQ1 := hid (Kp.trans (Kp.refl W0) hk1); clear hk1)
    clear HC
    cases h2 : numbersM fP2 s.data.toList with
    | some l =>
      have HG := hid (show guessM s.data.toList = ⟨7, l.getD 0 0, l.getD 1 0, 0⟩ by unfold guessM; rw [h1]; simp only [h2])
      have HC := hid (num_yes2 (HN2.out w1 HK1.out) h2 (numbers_ok h2).2)
      obtain ⟨a, ha⟩ : ∃ a, l.getD 0 0 = a := ⟨_, rfl⟩
      obtain ⟨b', hb'⟩ : ∃ b', l.getD 1 0 = b' := ⟨_, rfl⟩
      rw [ha, hb'] at HC HG
      clear h2 ha hb'
      go_upto_region 6 with (go_at_call 28; go_must (refine HC.out.mono ?_); rintro e u1 ⟨⟨b, o, c, rfl, hb, q0, q1⟩, hk1⟩; have HK1 := hid ((HK1.out).trans hk1); have HBU := hid (HB.out.kp (Kp.trans (HQ1.out) hk1)); clear hk1)
      obtain ⟨b0, b1, b2, b3, bf⟩ := HBU.out.cells
      have hbl := blk_lt HBU.out
      have HS := hid (HBU.out.set 7 a b' 0 HK1.out (Nat.le_refl _))
      go_region
      go_wp2
      clear b0 b1 b2 b3 bf q0 q1
      generalize ((((u1.setCell ⟨w.heap.size, 0, none⟩ (.int .i64 7)).setCell ⟨w.heap.size, 1, none⟩ (.int .i64 a)).setCell ⟨w.heap.size, 2, none⟩ (.int .i64 b')).setCell ⟨w.heap.size, 3, none⟩ (.int .i64 0)) = WE at HS ⊢
      obtain ⟨a0, a1, a2, a3, _⟩ := HS.out.1.cells
      exact bodyPost_ret (v := .agg #[.int .i64 7, .int .i64 a, .int .i64 b', .int .i64 0]) (by simp [results, Tryd.results18, go_sem, a0, a1, a2, a3]) rfl ⟨by rw [HG.out]; rfl, HS.out.2.drew⟩
    | none =>
      have HC := hid (num_no (HN2.out w1 HK1.out) h2)
      go_upto_region 7 with (go_at_call 28; go_must (refine HC.out.mono ?_); rintro e w2 ⟨⟨A2, n2, c2, rfl⟩, hk1⟩; have HK2 := hid ((HK1.out).trans hk1); have HQ2 := hid (Kp.trans (HQ1.out) hk1); clear hk1)
      clear HC
      cases h3 : numbersM fP3 s.data.toList with
      | some l =>
        have HG := hid (show guessM s.data.toList = ⟨5, 0, l.getD 0 0, l.getD 1 0⟩ by unfold guessM; rw [h1]; simp only [h2, h3])
        have HC := hid (num_yes2 (HN3.out w2 HK2.out) h3 (numbers_ok h3).2)
        obtain ⟨a, ha⟩ : ∃ a, l.getD 0 0 = a := ⟨_, rfl⟩
        obtain ⟨b', hb'⟩ : ∃ b', l.getD 1 0 = b' := ⟨_, rfl⟩
        rw [ha, hb'] at HC HG
        clear h3 ha hb'
        go_upto_region 9 with (go_at_call 28; go_must (refine HC.out.mono ?_); rintro e u1 ⟨⟨b, o, c, rfl, hb, q0, q1⟩, hk1⟩; have HK1 := hid ((HK2.out).trans hk1); have HBU := hid (HB.out.kp (Kp.trans (HQ2.out) hk1)); clear hk1)
        obtain ⟨b0, b1, b2, b3, bf⟩ := HBU.out.cells
        have hbl := blk_lt HBU.out
        have HS := hid (HBU.out.set 5 0 a b' HK1.out (Nat.le_refl _))
        go_region
        go_wp2
        clear b0 b1 b2 b3 bf q0 q1
        generalize ((((u1.setCell ⟨w.heap.size, 0, none⟩ (.int .i64 5)).setCell ⟨w.heap.size, 1, none⟩ (.int .i64 0)).setCell ⟨w.heap.size, 2, none⟩ (.int .i64 a)).setCell ⟨w.heap.size, 3, none⟩ (.int .i64 b')) = WE at HS ⊢
        obtain ⟨a0, a1, a2, a3, _⟩ := HS.out.1.cells
        exact bodyPost_ret (v := .agg #[.int .i64 5, .int .i64 0, .int .i64 a, .int .i64 b']) (by simp [results, Tryd.results18, go_sem, a0, a1, a2, a3]) rfl ⟨by rw [HG.out]; rfl, HS.out.2.drew⟩
      | none =>
        have HC := hid (num_no (HN3.out w2 HK2.out) h3)
        go_upto_region 10 with (go_at_call 28; go_must (refine HC.out.mono ?_); rintro e w3 ⟨⟨A3, n3, c3, rfl⟩, hk1⟩; have HK3 := hid ((HK2.out).trans hk1); have HQ3 := hid (Kp.trans (HQ2.out) hk1); clear hk1)
        clear HC
        cases h4 : numbersM fP4 s.data.toList with
        | some l =>
          have HG := hid (show guessM s.data.toList = ⟨5, l.getD 0 0, l.getD 1 0, l.getD 1 0⟩ by unfold guessM; rw [h1]; simp only [h2, h3, h4])
          have HC := hid (num_yes2 (HN4.out w3 HK3.out) h4 (numbers_ok h4).2)
          obtain ⟨a, ha⟩ : ∃ a, l.getD 0 0 = a := ⟨_, rfl⟩
          obtain ⟨b', hb'⟩ : ∃ b', l.getD 1 0 = b' := ⟨_, rfl⟩
          rw [ha, hb'] at HC
          rw [ha, hb'] at HG
          clear h4 ha hb'
          go_upto_region 12 with (go_at_call 28; go_must (refine HC.out.mono ?_); rintro e u1 ⟨⟨b, o, c, rfl, hb, q0, q1⟩, hk1⟩; have HK1 := hid ((HK3.out).trans hk1); have HBU := hid (HB.out.kp (Kp.trans (HQ3.out) hk1)); clear hk1)
          obtain ⟨b0, b1, b2, b3, bf⟩ := HBU.out.cells
          have hbl := blk_lt HBU.out
          have HS := hid (HBU.out.set 5 a b' b' HK1.out (Nat.le_refl _))
          go_region
          go_wp2
          clear b0 b1 b2 b3 bf q0 q1
          generalize ((((u1.setCell ⟨w.heap.size, 0, none⟩ (.int .i64 5)).setCell ⟨w.heap.size, 1, none⟩ (.int .i64 a)).setCell ⟨w.heap.size, 2, none⟩ (.int .i64 b')).setCell ⟨w.heap.size, 3, none⟩ (.int .i64 b')) = WE at HS ⊢
          obtain ⟨a0, a1, a2, a3, _⟩ := HS.out.1.cells
          exact bodyPost_ret (v := .agg #[.int .i64 5, .int .i64 a, .int .i64 b', .int .i64 b']) (by simp [results, Tryd.results18, go_sem, a0, a1, a2, a3]) rfl ⟨by rw [HG.out]; rfl, HS.out.2.drew⟩
        | none =>
          have HC := hid (num_no (HN4.out w3 HK3.out) h4)
          go_upto_region 13 with (go_at_call 28; go_must (refine HC.out.mono ?_); rintro e w4 ⟨⟨A4, n4, c4, rfl⟩, hk1⟩; have HK4 := hid ((HK3.out).trans hk1); have HQ4 := hid (Kp.trans (HQ3.out) hk1); clear hk1)
          clear HC
          cases h5 : numbersM fP5 s.data.toList with
          | some l =>
            have HG := hid (show guessM s.data.toList = ⟨5, l.getD 0 0, 0, 0⟩ by unfold guessM; rw [h1]; simp only [h2, h3, h4, h5])
            have HC := hid (num_yes1 (HN5.out w4 HK4.out) h5 (numbers_ok h5).2)
            obtain ⟨a, ha⟩ : ∃ a, l.getD 0 0 = a := ⟨_, rfl⟩
            rw [ha] at HC HG
            clear h5 ha
            go_upto_region 15 with (go_at_call 28; go_must (refine HC.out.mono ?_); rintro e u1 ⟨⟨b, o, c, rfl, hb, q0⟩, hk1⟩; have HK1 := hid ((HK4.out).trans hk1); have HBU := hid (HB.out.kp (Kp.trans (HQ4.out) hk1)); clear hk1)
            obtain ⟨b0, b1, b2, b3, bf⟩ := HBU.out.cells
            have hbl := blk_lt HBU.out
            have HS := hid (HBU.out.set 5 a 0 0 HK1.out (Nat.le_refl _))
            go_wp2
            clear b0 b1 b2 b3 bf q0
            generalize ((((u1.setCell ⟨w.heap.size, 0, none⟩ (.int .i64 5)).setCell ⟨w.heap.size, 1, none⟩ (.int .i64 a)).setCell ⟨w.heap.size, 2, none⟩ (.int .i64 0)).setCell ⟨w.heap.size, 3, none⟩ (.int .i64 0)) = WE at HS ⊢
            obtain ⟨a0, a1, a2, a3, _⟩ := HS.out.1.cells
            exact bodyPost_ret (v := .agg #[.int .i64 5, .int .i64 a, .int .i64 0, .int .i64 0]) (by simp [results, Tryd.results18, go_sem, a0, a1, a2, a3]) rfl ⟨by rw [HG.out]; rfl, HS.out.2⟩
          | none =>
            have HC := hid (num_no (HN5.out w4 HK4.out) h5)
            go_upto_region 16 with (go_at_call 28; go_must (refine HC.out.mono ?_); rintro e w5 ⟨⟨A5, n5, c5, rfl⟩, hk1⟩; have HK5 := hid ((HK4.out).trans hk1); have HQ5 := hid (Kp.trans (HQ4.out) hk1); clear hk1)
            clear HC
            have HG := hid (show guessM s.data.toList = ⟨fixedK s.data.toList, 0, 0, 0⟩ by unfold guessM; rw [h1]; simp only [h2, h3, h4, h5])
            clear h1 h2 h3 h4 h5 HN1 HN2 HN3 HN4 HN5
            go_wp2
            go_loopw [13] (fun kv wr => ∃ k : Nat, 1 ≤ k ∧ k ≤ 9 ∧ kv = .int .i64 (k : Int) ∧ Hid (∀ j : Nat, 1 ≤ j → j < k → fixedM (j : Int) ≠ s.data.toList) ∧ Kp w5 wr) (fun kv _ => 9 - (intOf kv).toNat)
            case atStart => exact ⟨1, by omega, by omega, rfl, hid (fun j h1 h2 => by omega), Kp.refl _⟩
            case round =>
              obtain ⟨k, hk1, hk9, rfl, HJ, hkp⟩ := hrel
              have HKW := hid (HK5.out.trans hkp)
              have HBU := hid (HB.out.kp (HQ5.out.trans hkp))
              by_cases hlt : k ≤ 8
              · have i1 : (k : Int) ≤ 8 := by omega
                have HFX := hid (fun w => fixed_any (k : Int) w)
                obtain ⟨X, hX⟩ : ∃ X : ByteArray, (⟨(fixedM (k : Int)).toArray⟩ : ByteArray) = X := ⟨_, rfl⟩
                rw [hX] at HFX
                by_cases he : fixedM (k : Int) = s.data.toList
                · have tt : (X.toList == s.toList) = true := by rw [ByteArray.toList_eq, ByteArray.toList_eq, ← hX, beq_iff_eq]; exact he
                  have HF := hid (fixedK_hit hk1 hlt he HJ.out)
                  obtain ⟨b0, b1, b2, b3, bf⟩ := HBU.out.cells
                  have HS := hid (HBU.out.set (k : Int) 0 0 0 HKW.out (Nat.le_refl _))
                  clear he hX hkp
                  go_wp2_with (go_at_call 17; go_must (refine (HFX.out _).mono ?_); rintro e w6 ⟨rfl, rfl⟩)
                  clear b0 b1 b2 b3 bf
                  generalize ((((wr.setCell ⟨w.heap.size, 0, none⟩ (.int .i64 (k : Int))).setCell ⟨w.heap.size, 1, none⟩ (.int .i64 0)).setCell ⟨w.heap.size, 2, none⟩ (.int .i64 0)).setCell ⟨w.heap.size, 3, none⟩ (.int .i64 0)) = WE at HS ⊢
                  obtain ⟨a0, a1, a2, a3, _⟩ := HS.out.1.cells
                  exact bodyPost_ret (v := .agg #[.int .i64 (k : Int), .int .i64 0, .int .i64 0, .int .i64 0]) (by simp [results, Tryd.results18, go_sem, a0, a1, a2, a3]) rfl ⟨by rw [HG.out, HF.out]; rfl, HS.out.2⟩
                · have tt : (X.toList == s.toList) = false := by rw [ByteArray.toList_eq, ByteArray.toList_eq, ← hX, beq_eq_false_iff_ne]; exact he
                  have HN := hid (show ∀ j : Nat, 1 ≤ j → j < k + 1 → fixedM (j : Int) ≠ s.data.toList from fun j h1 h2 => by
                    rcases Nat.lt_or_ge j k with h3 | h3
                    · exact HJ.out j h1 h3
                    · obtain rfl : j = k := by omega
                      exact he)
                  have HKP := hid hkp
                  clear he hX hkp
                  go_wp2_with (go_at_call 17; go_must (refine (HFX.out _).mono ?_); rintro e w6 ⟨rfl, rfl⟩)
                  go_roundw
                  case rel => exact ⟨k + 1, by omega, by omega, by simp, HN, HKP.out⟩
                  case measure => simp [intOf]; omega
              · obtain rfl : k = 9 := by omega
                have i1 : ¬ ((9 : Nat) : Int) ≤ 8 := by omega
                have HF := hid (fixedK_miss HJ.out)
                obtain ⟨b0, b1, b2, b3, bf⟩ := HBU.out.cells
                have HS := hid (HBU.out.set 0 0 0 0 HKW.out (Nat.le_refl _))
                clear hkp
                go_wp2
                clear b0 b1 b2 b3 bf
                generalize ((((wr.setCell ⟨w.heap.size, 0, none⟩ (.int .i64 0)).setCell ⟨w.heap.size, 1, none⟩ (.int .i64 0)).setCell ⟨w.heap.size, 2, none⟩ (.int .i64 0)).setCell ⟨w.heap.size, 3, none⟩ (.int .i64 0)) = WE at HS ⊢
                obtain ⟨a0, a1, a2, a3, _⟩ := HS.out.1.cells
                exact bodyPost_ret (v := .agg #[.int .i64 0, .int .i64 0, .int .i64 0, .int .i64 0]) (by simp [results, Tryd.results18, go_sem, a0, a1, a2, a3]) rfl ⟨by rw [HG.out, HF.out]; rfl, HS.out.2⟩
end Go.Proofs.YtiicdknmoakocaaDoor
