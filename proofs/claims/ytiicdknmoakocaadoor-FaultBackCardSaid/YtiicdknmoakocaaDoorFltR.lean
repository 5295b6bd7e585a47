/-
  Package fault: Read. Condition: the text is short; a global number of the library is there.
-/
import Derived.Test.YtiicdknmoakocaaDoorFltG
namespace Go.Proofs.YtiicdknmoakocaaDoor
open Go.RowKit
set_option linter.unusedVariables false
set_option linter.unusedSimpArgs false

noncomputable def freadM (s : List UInt8) : FaultM × Int := if (guessM s).k = 0 ∨ textM (guessM s) ≠ s then (⟨0, 0, 0, 0⟩, 6) else (guessM s, 0)
set_option maxRecDepth 20000 in
set_option maxHeartbeats 4000000 in
theorem fread_any (s : ByteArray) (hs : s.size ≤ 1000000) (m : Int) (w : World) (hm : w.cell? ⟨0, 0, none⟩ = some (.int .i64 m)) : Calls Tryd.prog 7 #[.string s] w fun e w' => e = .returned (.tuple #[fAgg (freadM s.data.toList).1, .int .i64 (freadM s.data.toList).2]) ∧ Kp w w' := by
  have hm0 := block_lt_of_cell hm
  have HB := hid (show FB (w.alloc (.cells #[.int .i64 0, .int .i64 0, .int .i64 0, .int .i64 0] 23)) w.heap.size 0 0 0 0 from blk_new _ _)
  have HK := hid (show Kp w (w.alloc (.cells #[.int .i64 0, .int .i64 0, .int .i64 0, .int .i64 0] 23)) from (Kp.refl w).alloc _)
  have HGS := hid (fun (u : World) (hu : Kp w u) => guess_any s hs m u (cell_kp hu hm0 hm))
  have HOK := hid (guess_ok s.data.toList)
  have HR := hid (show freadM s.data.toList = if (guessM s.data.toList).k = 0 ∨ textM (guessM s.data.toList) ≠ s.data.toList then (⟨0, 0, 0, 0⟩, 6) else (guessM s.data.toList, 0) from rfl)
  generalize freadM s.data.toList = R at HR ⊢
  obtain ⟨g, hg⟩ : ∃ g, guessM s.data.toList = g := ⟨_, rfl⟩
  rw [hg] at HGS HOK HR
  clear hg hs hm hm0
  obtain ⟨k, a, b, c⟩ := g
  have HT := hid (fun w => ftext_any ⟨k, a, b, c⟩ HOK.out w)
  obtain ⟨X, hX⟩ : ∃ X : ByteArray, (⟨(textM ⟨k, a, b, c⟩).toArray⟩ : ByteArray) = X := ⟨_, rfl⟩
  have HX := hid hX
  rw [hX] at HT
  clear hX
  unfold fAgg at HGS HT ⊢
  simp only at HR HGS HT
  by_cases h0 : k = 0
  · have t0 : (k == 0) = true := by simp [h0]
    have HE := hid (show R = (⟨0, 0, 0, 0⟩, 6) by rw [HR.out, if_pos (.inl h0)])
    clear h0
    go_enter Tryd.func7, Tryd.ntmps7
    go_upto_region 1 with fail
    generalize (w.alloc (.cells #[.int .i64 0, .int .i64 0, .int .i64 0, .int .i64 0] 23)) = W0 at HB HK ⊢
    have HC := hid (HGS.out W0 HK.out)
    go_upto_region 2 with (go_at_call 18; go_must (refine HC.out.mono ?_); rintro e w1 ⟨rfl, hk1⟩; have HK1 := hid hk1; clear hk1)
    have HBG := hid (show FB (w1.alloc (.cells #[.int .i64 k, .int .i64 a, .int .i64 b, .int .i64 c] 23)) w1.heap.size k a b c from blk_new _ _)
    have HK2 := hid (show Kp w1 (w1.alloc (.cells #[.int .i64 k, .int .i64 a, .int .i64 b, .int .i64 c] 23)) from (Kp.refl _).alloc _)
    generalize (w1.alloc (.cells #[.int .i64 k, .int .i64 a, .int .i64 b, .int .i64 c] 23)) = W1 at HBG HK2 ⊢
    have hbu := (HB.out.kp HK1.out).kp HK2.out
    obtain ⟨b0, b1, b2, b3, bf⟩ := hbu.cells
    obtain ⟨g0, g1, g2, g3, _⟩ := HBG.out.cells
    have HS := hid (hbu.set 0 0 0 0 ((HK.out.trans HK1.out).trans HK2.out) (Nat.le_refl _))
    clear hbu
    go_wp2
    clear b0 b1 b2 b3 bf g0 g1 g2 g3
    generalize ((((W1.setCell ⟨w.heap.size, 0, none⟩ (.int .i64 0)).setCell ⟨w.heap.size, 1, none⟩ (.int .i64 0)).setCell ⟨w.heap.size, 2, none⟩ (.int .i64 0)).setCell ⟨w.heap.size, 3, none⟩ (.int .i64 0)) = WE at HS ⊢
    obtain ⟨a0, a1, a2, a3, _⟩ := HS.out.1.cells
    exact bodyPost_ret (v := .tuple #[.agg #[.int .i64 0, .int .i64 0, .int .i64 0, .int .i64 0], .int .i64 6]) (by simp [results, Tryd.results7, go_sem, a0, a1, a2, a3]) rfl ⟨by rw [HE.out], HS.out.2⟩
  · have t0 : (k == 0) = false := by rw [beq_eq_false_iff_ne]; exact h0
    by_cases hx : textM ⟨k, a, b, c⟩ = s.data.toList
    · have tt : (X.toList == s.toList) = true := by rw [ByteArray.toList_eq, ByteArray.toList_eq, ← HX.out, beq_iff_eq]; exact hx
      have HE := hid (show R = (⟨k, a, b, c⟩, 0) by rw [HR.out, if_neg (by rintro (h | h); exact h0 h; exact h hx)])
      clear h0 hx
      go_enter Tryd.func7, Tryd.ntmps7
      go_upto_region 1 with fail
      generalize (w.alloc (.cells #[.int .i64 0, .int .i64 0, .int .i64 0, .int .i64 0] 23)) = W0 at HB HK ⊢
      have HC := hid (HGS.out W0 HK.out)
      go_upto_region 2 with (go_at_call 18; go_must (refine HC.out.mono ?_); rintro e w1 ⟨rfl, hk1⟩; have HK1 := hid hk1; clear hk1)
      have HBG := hid (show FB (w1.alloc (.cells #[.int .i64 k, .int .i64 a, .int .i64 b, .int .i64 c] 23)) w1.heap.size k a b c from blk_new _ _)
      have HK2 := hid (show Kp w1 (w1.alloc (.cells #[.int .i64 k, .int .i64 a, .int .i64 b, .int .i64 c] 23)) from (Kp.refl _).alloc _)
      generalize (w1.alloc (.cells #[.int .i64 k, .int .i64 a, .int .i64 b, .int .i64 c] 23)) = W1 at HBG HK2 ⊢
      obtain ⟨g0, g1, g2, g3, _⟩ := HBG.out.cells
      go_wp2_with (go_at_call 6; go_must (refine (HT.out _).mono ?_); rintro e w3 ⟨rfl, hk3⟩; have hbu := ((HB.out.kp HK1.out).kp HK2.out).kp hk3; obtain ⟨b0, b1, b2, b3, bf⟩ := hbu.cells; obtain ⟨e0, e1, e2, e3, _⟩ := (HBG.out.kp hk3).cells; have HS := hid (hbu.set k a b c (((HK.out.trans HK1.out).trans HK2.out).trans hk3) (Nat.le_refl _)); clear hbu hk3)
      clear b0 b1 b2 b3 bf g0 g1 g2 g3 e0 e1 e2 e3
      generalize ((((w3.setCell ⟨w.heap.size, 0, none⟩ (.int .i64 k)).setCell ⟨w.heap.size, 1, none⟩ (.int .i64 a)).setCell ⟨w.heap.size, 2, none⟩ (.int .i64 b)).setCell ⟨w.heap.size, 3, none⟩ (.int .i64 c)) = WE at HS ⊢
      obtain ⟨a0, a1, a2, a3, _⟩ := HS.out.1.cells
      exact bodyPost_ret (v := .tuple #[.agg #[.int .i64 k, .int .i64 a, .int .i64 b, .int .i64 c], .int .i64 0]) (by simp [results, Tryd.results7, go_sem, a0, a1, a2, a3]) rfl ⟨by rw [HE.out], HS.out.2⟩
    · have tt : (X.toList == s.toList) = false := by rw [ByteArray.toList_eq, ByteArray.toList_eq, ← HX.out, beq_eq_false_iff_ne]; exact hx
      have HE := hid (show R = (⟨0, 0, 0, 0⟩, 6) by rw [HR.out, if_pos (.inr hx)])
      clear h0 hx
      go_enter Tryd.func7, Tryd.ntmps7
      go_upto_region 1 with fail
      generalize (w.alloc (.cells #[.int .i64 0, .int .i64 0, .int .i64 0, .int .i64 0] 23)) = W0 at HB HK ⊢
      have HC := hid (HGS.out W0 HK.out)
      go_upto_region 2 with (go_at_call 18; go_must (refine HC.out.mono ?_); rintro e w1 ⟨rfl, hk1⟩; have HK1 := hid hk1; clear hk1)
      have HBG := hid (show FB (w1.alloc (.cells #[.int .i64 k, .int .i64 a, .int .i64 b, .int .i64 c] 23)) w1.heap.size k a b c from blk_new _ _)
      have HK2 := hid (show Kp w1 (w1.alloc (.cells #[.int .i64 k, .int .i64 a, .int .i64 b, .int .i64 c] 23)) from (Kp.refl _).alloc _)
      generalize (w1.alloc (.cells #[.int .i64 k, .int .i64 a, .int .i64 b, .int .i64 c] 23)) = W1 at HBG HK2 ⊢
      obtain ⟨g0, g1, g2, g3, _⟩ := HBG.out.cells
      go_wp2_with (go_at_call 6; go_must (refine (HT.out _).mono ?_); rintro e w3 ⟨rfl, hk3⟩; have hbu := ((HB.out.kp HK1.out).kp HK2.out).kp hk3; obtain ⟨b0, b1, b2, b3, bf⟩ := hbu.cells; have HS := hid (hbu.set 0 0 0 0 (((HK.out.trans HK1.out).trans HK2.out).trans hk3) (Nat.le_refl _)); clear hbu hk3)
      clear b0 b1 b2 b3 bf g0 g1 g2 g3
      generalize ((((w3.setCell ⟨w.heap.size, 0, none⟩ (.int .i64 0)).setCell ⟨w.heap.size, 1, none⟩ (.int .i64 0)).setCell ⟨w.heap.size, 2, none⟩ (.int .i64 0)).setCell ⟨w.heap.size, 3, none⟩ (.int .i64 0)) = WE at HS ⊢
      obtain ⟨a0, a1, a2, a3, _⟩ := HS.out.1.cells
      exact bodyPost_ret (v := .tuple #[.agg #[.int .i64 0, .int .i64 0, .int .i64 0, .int .i64 0], .int .i64 6]) (by simp [results, Tryd.results7, go_sem, a0, a1, a2, a3]) rfl ⟨by rw [HE.out], HS.out.2⟩
theorem fixed_len (k : Int) : (fixedM k).length ≤ 80 := by
  unfold fixedM
  repeat' (split <;> try decide)
theorem itoa_len (v : Int) (h : okI v) : (Lib.itoa v).length ≤ 20 := tx_size v h
theorem text_len (f : FaultM) (h : okFt f) : (textM f).length ≤ 200 := by
  have h1 := itoa_len _ h.2.1; have h2 := itoa_len _ h.2.2.1; have h3 := itoa_len _ h.2.2.2
  have c1 : cIx.length = 35 := rfl
  have c2 : cWl.length = 14 := rfl
  have c3 : cLn.length = 22 := rfl
  have c4 : cAb.length = 10 := rfl
  have c5 : cSl.length = 42 := rfl
  unfold textM
  split
  · simp only [List.length_append]; omega
  split
  · unfold boundsM
    split
    · simp only [List.length_append, List.length_cons]; omega
    split
    · simp only [List.length_append, List.length_cons, List.length_nil]; omega
    split
    · simp only [List.length_append, List.length_cons, List.length_nil]; omega
    · simp
  split
  · simp only [List.length_append]; omega
  · have := fixed_len f.k; omega
/-- What a fault tells is read as a fault of the same kind that tells the same. -/
theorem fread_law (f : FaultM) (h : okFt f) : (textM f = [] → freadM (textM f) = (⟨0, 0, 0, 0⟩, 6)) ∧ (textM f ≠ [] → ∃ g, freadM (textM f) = (g, 0) ∧ okFt g ∧ g.k = f.k ∧ textM g = textM f) := by
  constructor
  · intro hn
    rw [hn]
    unfold freadM
    rw [guess_nil, if_pos (.inr (by unfold textM; rw [if_pos rfl]; simp [cIx]))]
  · intro hn
    obtain ⟨h1, h2, h3⟩ := guess_law f h hn
    refine ⟨_, by unfold freadM; rw [if_neg (by rintro (h | h); exact h3 h; exact h h2)], guess_ok _, h1, h2⟩
end Go.Proofs.YtiicdknmoakocaaDoor
