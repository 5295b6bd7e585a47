/-
  The law ScanMemory answers true for all texts. No condition.
-/
import Derived.SizedLaws
import Derived.Deep.CondSized
import Derived.Test.YtlfgofjmcegeiaaRows
import Derived.Test.YtlfgofjmcegeiaaScanM
namespace Go.Proofs.Ytlfgofjmcegeiaa.scanMemory
open Go.ChangeShapes Go.WideShapes Go.ChangeAt Go.RowKit
open Go.ChangeMaps (open_string shut_string)
set_option linter.unusedVariables false
set_option linter.unusedSimpArgs false

theorem own : ownKnob Try.prog.godebug = none := by kernel_rfl
theorem laidOut : laidOutB Try.prog = true := by kernel_rfl


theorem kp_blk {w w' : World} {b : Nat} {x : Obj} (hk : Kp w w') (h : w.heap[b]? = some x) : w'.heap[b]? = some x := (hk.block b (blk_lt h)).trans h
theorem trow_lt {w : World} {base n : Nat} {v : Value} (h : TRow w base v n) : ∀ g, v.ownBlock = some g → base ≤ g ∧ g < w.heap.size := by
  obtain ⟨xs, h⟩ := h
  exact fun g hg => World.ownsRow.lt h g hg
theorem trow_kp {w w' : World} {base n : Nat} {v : Value} (h : TRow w base v n) (hk : Kp w w') : TRow w' base v n := by
  obtain ⟨xs, h⟩ := h
  exact ⟨xs, ownsRow_keep h hk⟩
theorem own_lt {w : World} {base : Nat} {v : Value} {l : List TokenM} (h : OwnL CeToken 4 41 w base v l) : ∀ g, v.ownBlock = some g → base ≤ g ∧ g < w.heap.size := by
  obtain ⟨xs, h, _⟩ := h
  exact fun g hg => World.ownsRow.lt h g hg
theorem made_four {W : World} {g n : Nat} {T : TypeId} {news : List Value} {t0 t1 t2 t3 : Value} (hn : news.length = n * 4) (h : W.heap[g]? = some (.cells (news ++ [t0, t1, t2, t3]).toArray T (0, 0))) (v0 v1 v2 v3 : Value) :
    W.cell? ⟨g, n * 4, none⟩ = some t0 ∧ W.frozen? ⟨g, n * 4, none⟩ = false ∧
    (W.setCell ⟨g, n * 4, none⟩ v0).cell? ⟨g, n * 4 + 1, none⟩ = some t1 ∧ (W.setCell ⟨g, n * 4, none⟩ v0).frozen? ⟨g, n * 4 + 1, none⟩ = false ∧
    ((W.setCell ⟨g, n * 4, none⟩ v0).setCell ⟨g, n * 4 + 1, none⟩ v1).cell? ⟨g, n * 4 + 2, none⟩ = some t2 ∧ ((W.setCell ⟨g, n * 4, none⟩ v0).setCell ⟨g, n * 4 + 1, none⟩ v1).frozen? ⟨g, n * 4 + 2, none⟩ = false ∧
    (((W.setCell ⟨g, n * 4, none⟩ v0).setCell ⟨g, n * 4 + 1, none⟩ v1).setCell ⟨g, n * 4 + 2, none⟩ v2).cell? ⟨g, n * 4 + 3, none⟩ = some t3 ∧ (((W.setCell ⟨g, n * 4, none⟩ v0).setCell ⟨g, n * 4 + 1, none⟩ v1).setCell ⟨g, n * 4 + 2, none⟩ v2).frozen? ⟨g, n * 4 + 3, none⟩ = false ∧
    ((((W.setCell ⟨g, n * 4, none⟩ v0).setCell ⟨g, n * 4 + 1, none⟩ v1).setCell ⟨g, n * 4 + 2, none⟩ v2).setCell ⟨g, n * 4 + 3, none⟩ v3).heap[g]? = some (.cells (news ++ [v0, v1, v2, v3]).toArray T (0, 0)) := by
  have h1 := blk_set (o := n * 4) h v0
  have h2 := blk_set (o := n * 4 + 1) h1 v1
  have h3 := blk_set (o := n * 4 + 2) h2 v2
  have h4 := blk_set (o := n * 4 + 3) h3 v3
  rw [made_set hn] at h4
  have hc : ∀ (L : List Value) (j : Nat), (news ++ L)[n * 4 + j]? = L[j]? := fun L j => by rw [List.getElem?_append_right (by omega)]; congr 1; omega
  have c0 := hc [t0, t1, t2, t3] 0
  have c1 := hc [t0, t1, t2, t3] 1
  have c2 := hc [t0, t1, t2, t3] 2
  have c3 := hc [t0, t1, t2, t3] 3
  simp only [Nat.add_zero] at c0
  refine ⟨blk_cell h (by simpa using c0), blk_free h, ?_, blk_free h1, ?_, blk_free h2, ?_, blk_free h3, h4⟩
  · exact blk_cell h1 (by rw [Array.getElem?_setIfInBounds_ne (by omega)]; simpa using c1)
  · exact blk_cell h2 (by rw [Array.getElem?_setIfInBounds_ne (by omega), Array.getElem?_setIfInBounds_ne (by omega)]; simpa using c2)
  · exact blk_cell h3 (by rw [Array.getElem?_setIfInBounds_ne (by omega), Array.getElem?_setIfInBounds_ne (by omega), Array.getElem?_setIfInBounds_ne (by omega)]; simpa using c3)
theorem made_rd {W : World} {g : Nat} {T : TypeId} {news L : List Value} {l : List TokenM} (hch : Chunk CeToken 4 W news l) (h : W.heap[g]? = some (.cells (news ++ L).toArray T (0, 0))) : RdL CeToken 4 W (.slice (some ⟨g, 0, none⟩) l.length (l.length + 1)) l := by
  refine ⟨_, _, rfl, by omega, fun i a hi => ?_⟩
  obtain ⟨cs, g1, g2, g3⟩ := hch.get hi
  refine ⟨g, 0, cs, rfl, blk_lt h, g1, g2, fun j hj => ?_⟩
  have e := g3 j hj
  have hs : j < cs.length := by omega
  rw [List.getElem?_eq_getElem hs] at e ⊢
  have hlt := (List.getElem?_eq_some_iff.1 e).1
  exact blk_cell h (by rw [List.getElem?_toArray, Nat.zero_add, List.getElem?_append_left hlt]; exact e)
set_option maxRecDepth 20000 in
set_option maxHeartbeats 8000000 in
theorem walk (a0 : ByteArray) (w : World) (w0 : a0.size ≤ 140737488351232) :
    Calls Try.prog 8 #[.string a0] w fun e w' => e = .returned (.bool true) ∧ Kp w w' := by
  obtain ⟨l, e0, e1, e2, hl2, hT⟩ := toks_fix a0 w0
  have HL := hid hl2
  clear hl2 w0
  go_enter Try.func8, Try.ntmps8
  go_wp2_with fail
  refine (hT _).mono ?_
  rintro e u1 ⟨⟨v, rfl, ho⟩, hk1⟩
  have HO := hid ho; have HK1 := hid hk1
  obtain ⟨A, cc, rfl, _⟩ := (OwnL.rd ho).form
  have HB1 := hid (blk_new u1 (Obj.cells #[.int .i64 e0, .int .i64 e1, .int .i64 e2] 36))
  clear ho hk1
  go_wp2_with fail
  refine (hT _).mono ?_
  rintro e u2 ⟨⟨v2, rfl, ho2⟩, hk2⟩
  have HO2 := hid ho2; have HK2 := hid hk2
  obtain ⟨A2, c2, rfl, _⟩ := (OwnL.rd ho2).form
  have HB2 := hid (blk_new u2 (Obj.cells #[.int .i64 e0, .int .i64 e1, .int .i64 e2] 36))
  have B1 := hid (show 0 + l.length ≤ maxLen by have := HL.out; unfold maxLen; omega)
  have B2 := hid (show (0 + l.length) * 40 ≤ 140737488355328 by have := HL.out; omega)
  have hq : ∀ w, Sem.run Try.prog (binOp .neq 36 (.agg #[.int .i64 e0, .int .i64 e1, .int .i64 e2]) (.agg #[.int .i64 e0, .int .i64 e1, .int .i64 e2])) w = .ok (.bool false) w := ne_spot e0 e1 e2
  clear ho2 hk2 hT
  go_wp2_with first | (go_at_call 18; go_must (refine (three_any _).mono ?_); rintro e w9 ⟨rfl, hk9⟩; have HK9 := hid hk9; have hb1 := kp_blk (HK2.out.trans (((Kp.refl u2).alloc _).trans hk9)) HB1.out; have hb2 := kp_blk hk9 HB2.out; have r0 := blk_cell (o := 0) (v := .int .i64 e0) hb1 rfl; have r1 := blk_cell (o := 1) (v := .int .i64 e1) hb1 rfl; have r2 := blk_cell (o := 2) (v := .int .i64 e2) hb1 rfl; have s0 := blk_cell (o := 0) (v := .int .i64 e0) hb2 rfl; have s1 := blk_cell (o := 1) (v := .int .i64 e1) hb2 rfl; have s2 := blk_cell (o := 2) (v := .int .i64 e2) hb2 rfl; obtain ⟨news, hch, hnl, hsrc⟩ := ((OwnL.rd HO2.out).kp CeToken.kp (((Kp.refl u2).alloc _).trans hk9)).src; have HCH := hid hch; have HSRC := hid hsrc; have HNL := hid hch.len; have HONE := hid (Chunk.one_ (tokOne w9) hch); clear hk9 hb1 hb2 hch hnl hsrc) | (at_builtin; refine app_src elToken ?p0 (.const (.slice none 0 0)) (.tmp 36) ?p1 (World.ownsRow_nil w9 w9.heap.size 41 4) ?p2 news A2 l.length c2 ?p3 HNL.out HSRC.out HONE.out B1.out B2.out (Nat.le_refl _) ?p8)
  case p0 => rfl
  case p1 => rfl
  case p2 => rfl
  case p3 => rfl
  case p8 =>
    intro v1 w1 hown1 hg1 _ hb1
    have hkw : Kp w9 w1 := hb1
    have hown : OwnL CeToken 4 41 w1 w9.heap.size v1 l := ⟨news, by simpa using hown1, Chunk.mono (w := w9) (w' := w1) (fun _ _ h => h) HCH.out⟩
    have k1 : Kp u1 w1 := ((Kp.refl u1).alloc _).trans (HK2.out.trans (((Kp.refl u2).alloc _).trans (HK9.out.trans hkw)))
    have k2 : Kp u2 w1 := ((Kp.refl u2).alloc _).trans (HK9.out.trans hkw)
    have hal := own_lt HO.out
    have hsz : u1.heap.size < (u1.alloc (Obj.cells #[.int .i64 e0, .int .i64 e1, .int .i64 e2] 36)).heap.size := by simp
    have h29 : u2.heap.size ≤ w9.heap.size := (((Kp.refl u2).alloc _).trans HK9.out).le
    have h12 := HK2.out.le
    have HKA := hid (HK1.out.trans k1)
    have HA := hid (show TRow w1 w.heap.size (.slice A l.length cc) l.length by
      obtain ⟨xs, h, _⟩ := HO.out
      exact trow_kp ⟨xs, h⟩ k1)
    have HBB : Hid (OwnL CeToken 4 41 w1 (u1.alloc (Obj.cells #[.int .i64 e0, .int .i64 e1, .int .i64 e2] 36)).heap.size (.slice A2 l.length c2) l) := by
      obtain ⟨xs, h, h'⟩ := HO2.out
      exact hid ⟨xs, ownsRow_keep h k2, Chunk.mono (w := u2) (w' := w1) (fun _ _ h => h) h'⟩
    have HWW := hid hown
    have HNB : Hid (∀ g, (Value.slice A2 l.length c2).ownBlock = some g → some g ≠ (Value.slice A l.length cc).ownBlock) := hid (fun g hg e => by
      have h1 := own_lt HO2.out g hg
      have h2 := hal g e.symm
      omega)
    have HNW : Hid (∀ g, v1.ownBlock = some g → some g ≠ (Value.slice A l.length cc).ownBlock) := hid (fun g hg e => by
      have h1 := own_lt hown g hg
      have h2 := hal g e.symm
      omega)
    have HWS := hid (show w.heap.size ≤ w1.heap.size from (HK1.out.trans k1).le)
    obtain ⟨A1, c1, rfl, _⟩ := (OwnL.rd hown).form
    clear hown1 hg1 hb1 hkw hown k1 k2 hal hsz h29 h12 r0 r1 r2 s0 s1 s2 hq HB1 HB2 HK1 HK2 HO HO2 HK9 HCH HSRC HNL HONE B1 B2
    go_wp2_with fail
    go_loopw [8] (fun i wr => ∃ k : Nat, k ≤ l.length ∧ i = .int .i64 (k : Int) ∧ TRow wr w.heap.size (.slice A l.length cc) l.length ∧ w1.grownBy wr (Value.slice A l.length cc).ownBlock) (fun i _ => l.length - (intOf i).toNat)
    case atStart => exact ⟨0, by omega, rfl, HA.out, World.grownBy.refl _ _⟩
    case round =>
      obtain ⟨k, hk, rfl, hR, hG⟩ := hrel
      have HG := hid hG
      clear hG
      by_cases hlt : k < l.length
      · have i1 : (k : Int) < (l.length : Int) := by omega
        obtain ⟨g, c', y, e, hy, hf⟩ := hR.at_ (j := k * 4 + 1) (by omega)
        cases e
        have HRS := hid (hR.set (j := k * 4 + 1) (by omega) (.string ⟨#[63]⟩))
        have hl2 := HL.out
        clear hR hk
        go_wp2_with fail
        go_roundw
        case rel => exact ⟨k + 1, hlt, rfl, HRS.out, HG.out.trans (grown_setCell _)⟩
        case measure => simp only [intOf, Int.toNat_natCast]; omega
      · obtain rfl : k = l.length := by omega
        have i1 : ¬ (l.length : Int) < (l.length : Int) := by omega
        obtain ⟨xs, hown⟩ := hR
        have HO := hid hown
        have B1 := hid (show l.length + 2 ≤ maxLen by have := HL.out; unfold maxLen; omega)
        have B2 := hid (show (l.length + 2) * 40 ≤ 140737488355328 by have := HL.out; omega)
        have HBS := hid (show w.heap.size ≤ wr.heap.size from Nat.le_trans HWS.out HG.out.size)
        clear hown hk
        go_wp2_with (at_builtin; refine app_lit elToken ?p0 (.tmp 48) (.tmp 51) ?p1 HO.out ?p2 _ _ 2 2 ?p3 ?p4 ?p5 B1.out B2.out HBS.out ?p8)
        case p0 => rfl
        case p1 => rfl
        case p5 => repeat' (first | exact rfl | refine ⟨?_, ?_⟩)
        case p8 =>
          intro v3 w3 hown3 hg3 hm3 hn3 hb3
          obtain ⟨g3, c3, y3, e3, hy3, hf3⟩ := TRow.at_ (v := v3) (n := l.length + 2) ⟨_, hown3⟩ (j := 0) (by omega)
          subst e3
          have HT3 := hid hown3; have HG3 := hid hg3; have HM3 := hid hm3; have HB3 := hid hb3
          have i2 : (0 : Int) < ((l.length + 2 : Nat) : Int) := by omega
          clear hown3 hg3 hm3 hn3 hb3
          have HRS := hid (TRow.set ⟨_, HT3.out⟩ (j := 0) (by omega) (.int .i64 99))
          have hb1r : ∀ g, (Value.slice A2 l.length c2).ownBlock = some g → g < w1.heap.size := fun g hg => (own_lt HBB.out g hg).2
          have hb2r : ∀ g, (Value.slice A1 l.length c1).ownBlock = some g → g < w1.heap.size := fun g hg => (own_lt HWW.out g hg).2
          have hsz := HG.out.size
          have hnew : ∀ g, some g ≠ (Value.slice A l.length cc).ownBlock → g < w1.heap.size → some g ≠ some g3 := fun g h1 h2 e => by
            rcases HM3.out with h3 | ⟨k', h3, h3'⟩
            · exact h1 (by rw [← h3, e]; rfl)
            · have e2 : g3 = k' := by injection h3
              have e3 : g = g3 := by injection e
              omega
          have HBX := hid (OwnL.rd (tok_kept (tok_kept (tok_kept HBB.out HG.out HNB.out) HG3.out HNB.out) (grown_setCell (w := w3) (b := g3) (o := 0) (.int .i64 99)) (fun g hg => hnew g (HNB.out g hg) (hb1r g hg))))
          have HWX := hid (OwnL.rd (tok_kept (tok_kept (tok_kept HWW.out HG.out HNW.out) HG3.out HNW.out) (grown_setCell (w := w3) (b := g3) (o := 0) (.int .i64 99)) (fun g hg => hnew g (HNW.out g hg) (hb2r g hg))))
          have hra := trow_lt HA.out
          have HKX := hid (Below.setCell (p := ⟨g3, 0, none⟩) (Below.trans (HKA.out.grown HG.out HWS.out (fun k hk => (hra k hk).1)) HB3.out) (trow_lt ⟨_, HT3.out⟩ g3 rfl).1 (.int .i64 99))
          clear hb1r hb2r hsz hnew hra HA HBB HWW HNB HNW HWS HKA HRS HM3 HB3 HBS B1 B2 HG HG3 HO
          go_wp2_with fail
          clear hy3 hf3 HT3
          generalize w3.setCell ⟨g3, 0, none⟩ (.int .i64 99) = X at HBX HWX HKX ⊢
          go_loopw [9] (fun i wq => ∃ k : Nat, k ≤ l.length ∧ i = .int .i64 (k : Int) ∧ Kp X wq) (fun i _ => l.length - (intOf i).toNat)
          case atStart => exact ⟨0, by omega, rfl, Kp.refl _⟩
          case round =>
            obtain ⟨k, hk, rfl, hkq⟩ := hrel
            have HKQ := hid hkq
            by_cases hlt : k < l.length
            · have i1 : (k : Int) < (l.length : Int) := by omega
              obtain ⟨t, ht⟩ : ∃ t, l[k]? = some t := ⟨_, List.getElem?_eq_getElem hlt⟩
              obtain ⟨bb, bo, rfl, hbb, p0, p1, p2, p3, _⟩ := at_token (HBX.out.kp CeToken.kp hkq) ht
              obtain ⟨wb, wo, rfl, hwb, q0, q1, q2, q3, _⟩ := at_token (HWX.out.kp CeToken.kp hkq) ht
              have P0 := hid p0; have P1 := hid p1; have P2 := hid p2; have P3 := hid p3
              have Q0 := hid q0; have Q1 := hid q1; have Q2 := hid q2; have Q3 := hid q3
              have hl2 := HL.out
              clear p0 p1 p2 p3 q0 q1 q2 q3 ht hk hkq
              go_wp2_with fail
              refine mem15 _ _ _ _ _ _ _ _ _ _ _ _ _ hbb hwb P0.out P1.out P2.out P3.out Q0.out Q1.out Q2.out Q3.out i1 i1 (ne_tok _ _ _ _) (fun u hg => ?_)
              have HGU := hid hg
              clear hg
              go_wp2_with fail
              go_roundw
              case rel => exact ⟨k + 1, hlt, rfl, HKQ.out.trans HGU.out⟩
              case measure => simp only [intOf, Int.toNat_natCast]; omega
            · obtain rfl : k = l.length := by omega
              have i1 : ¬ (l.length : Int) < (l.length : Int) := by omega
              have hl2 := HL.out
              have HBQ := hid (HBX.out.kp CeToken.kp hkq)
              have HWQ := hid (HWX.out.kp CeToken.kp hkq)
              have HKW := hid (show Below w.heap.size w wr from Below.trans HKX.out (Below.mono hkq HKX.out.size))
              clear hk hkq
              obtain ⟨news, hch, _, hsrc⟩ := HBQ.out.src
              have hnl : news.length = l.length * 4 := hch.len
              obtain ⟨W1, t0, t1, t2, t3, hcp, hW1, hkW1⟩ := copy_toks wr A2 c2 l.length news hnl hsrc (Chunk.one_ (tokOne wr) hch) #[.int .i64 0, .string ⟨#[]⟩, .int .i64 0, .int .i64 0]
              obtain ⟨m0, f0, m1, f1, m2, f2, m3, f3, hm4⟩ := made_four hnl hW1 (.int .i64 0) (.string ⟨#[115, 112, 97, 114, 101]⟩) (.int .i64 0) (.int .i64 0)
              obtain ⟨z0, hT0, hi0, hz0, hz1, hz2, _, _⟩ := elToken
              have hmk : ∀ u : World, (Instr.makeSlice 34 (.int .i64 ((l.length : Int) + 1)) (.int .i64 ((l.length : Int) + 1))).run Try.prog u =
                  .ok (.slice (some ⟨u.heap.size, 0, none⟩) (l.length + 1) (l.length + 1)) (u.alloc (.cells (madeCells #[.int .i64 0, .string ⟨#[]⟩, .int .i64 0, .int .i64 0] ((l.length + 1) * 4)) 41)) := fun u => by
                have h := run_make (P := Try.prog) u 34 41 z0 _ hT0 hi0 hz0 .i64 .i64 ((l.length : Int) + 1) ((l.length : Int) + 1) (by omega) (Int.le_refl _) (by rw [hz2]; have := HL.out; omega) (by have := HL.out; omega)
                have e : ((l.length : Int) + 1).toNat = l.length + 1 := by omega
                rw [e] at h
                simpa [hz1, Value.cells] using h
              have i3 : (l.length : Int) < ((l.length + 1 : Nat) : Int) := by omega
              have i4 : (0 : Int) ≤ (l.length : Int) := by omega
              have HM4 := hid hm4; have HCH := hid hch; have HNL := hid hnl; have HKW1 := hid hkW1
              clear hch hnl hsrc hW1 hkW1 hT0 hi0 hz0 hz1 hz2 hm4
              go_wp2_with fail
              have hm := HM4.out
              have hkm : Below w.heap.size w ((((W1.setCell ⟨wr.heap.size, l.length * 4, none⟩ (.int .i64 0)).setCell ⟨wr.heap.size, l.length * 4 + 1, none⟩ (.string ⟨#[115, 112, 97, 114, 101]⟩)).setCell ⟨wr.heap.size, l.length * 4 + 2, none⟩ (.int .i64 0)).setCell ⟨wr.heap.size, l.length * 4 + 3, none⟩ (.int .i64 0)) := by
                have hs := HKW.out.size
                exact Below.setCell (p := ⟨wr.heap.size, l.length * 4 + 3, none⟩) (Below.setCell (p := ⟨wr.heap.size, l.length * 4 + 2, none⟩) (Below.setCell (p := ⟨wr.heap.size, l.length * 4 + 1, none⟩) (Below.setCell (p := ⟨wr.heap.size, l.length * 4, none⟩) (Below.trans HKW.out (Below.mono HKW1.out hs)) hs _) hs _) hs _) hs _
              have hkv : Kp wr ((((W1.setCell ⟨wr.heap.size, l.length * 4, none⟩ (.int .i64 0)).setCell ⟨wr.heap.size, l.length * 4 + 1, none⟩ (.string ⟨#[115, 112, 97, 114, 101]⟩)).setCell ⟨wr.heap.size, l.length * 4 + 2, none⟩ (.int .i64 0)).setCell ⟨wr.heap.size, l.length * 4 + 3, none⟩ (.int .i64 0)) := by
                have hs := Nat.le_refl wr.heap.size
                exact Below.setCell (p := ⟨wr.heap.size, l.length * 4 + 3, none⟩) (Below.setCell (p := ⟨wr.heap.size, l.length * 4 + 2, none⟩) (Below.setCell (p := ⟨wr.heap.size, l.length * 4 + 1, none⟩) (Below.setCell (p := ⟨wr.heap.size, l.length * 4, none⟩) HKW1.out hs _) hs _) hs _) hs _
              generalize ((((W1.setCell ⟨wr.heap.size, l.length * 4, none⟩ (.int .i64 0)).setCell ⟨wr.heap.size, l.length * 4 + 1, none⟩ (.string ⟨#[115, 112, 97, 114, 101]⟩)).setCell ⟨wr.heap.size, l.length * 4 + 2, none⟩ (.int .i64 0)).setCell ⟨wr.heap.size, l.length * 4 + 3, none⟩ (.int .i64 0)) = Y at hm hkm hkv ⊢
              have HMY := hid hm; have HKY := hid hkm
              have HMR := hid (made_rd (Chunk.mono (w := wr) (w' := Y) (fun _ _ h => h) HCH.out) hm)
              have HWY := hid (HWQ.out.kp CeToken.kp hkv)
              clear hm hkm hkv hmk hcp m0 m1 m2 m3 f0 f1 f2 f3 HM4 HKW1 HKW HCH HBQ HWQ
              refine (show_any Y _ l HMR.out).mono ?_
              rintro e Z ⟨h2, hkz⟩
              have HMZ := hid ((hkz.block wr.heap.size (blk_lt HMY.out)).trans HMY.out)
              have HMR2 := hid (HMR.out.kp CeToken.kp hkz)
              have HWZ := hid (HWY.out.kp CeToken.kp hkz)
              have HKZ := hid (show Below w.heap.size w Z from Below.trans HKY.out (Below.mono hkz HKY.out.size))
              obtain ⟨rv, rfl⟩ : ∃ rv, e = .returned rv := by
                rcases h2 with ⟨_, _, _, h⟩ | ⟨_, _, h⟩
                · exact ⟨_, h⟩
                · exact ⟨_, h⟩
              clear h2 hkz
              generalize wr.heap.size = gm at HMZ HMR2 ⊢
              go_wp2_with fail
              go_loopw [11] (fun i wq => ∃ k : Nat, k ≤ l.length ∧ i = .int .i64 (k : Int) ∧ Kp Z wq) (fun i _ => l.length - (intOf i).toNat)
              case atStart => exact ⟨0, by omega, rfl, Kp.refl _⟩
              case round =>
                obtain ⟨k, hk, rfl, hkq⟩ := hrel
                have HKQ := hid hkq
                by_cases hlt : k < l.length
                · have i1 : (k : Int) < (l.length : Int) := by omega
                  have i5 : (k : Int) < ((l.length + 1 : Nat) : Int) := by omega
                  obtain ⟨t, ht⟩ : ∃ t, l[k]? = some t := ⟨_, List.getElem?_eq_getElem hlt⟩
                  obtain ⟨bb, bo, e', hbb, p0, p1, p2, p3, _⟩ := at_token (HMR2.out.kp CeToken.kp hkq) ht
                  cases e'
                  obtain ⟨wb, wo, rfl, hwb, q0, q1, q2, q3, _⟩ := at_token (HWZ.out.kp CeToken.kp hkq) ht
                  have P0 := hid p0; have P1 := hid p1; have P2 := hid p2; have P3 := hid p3
                  have Q0 := hid q0; have Q1 := hid q1; have Q2 := hid q2; have Q3 := hid q3
                  clear p0 p1 p2 p3 q0 q1 q2 q3 ht hk hkq
                  go_wp2_with fail
                  refine mem24 _ _ _ _ _ _ _ _ _ _ _ _ _ hbb hwb P0.out P1.out P2.out P3.out Q0.out Q1.out Q2.out Q3.out i5 i1 (ne_tok _ _ _ _) (fun u hg => ?_)
                  have HGU := hid hg
                  clear hg
                  go_wp2_with fail
                  go_roundw
                  case rel => exact ⟨k + 1, hlt, rfl, HKQ.out.trans HGU.out⟩
                  case measure => simp only [intOf, Int.toNat_natCast]; omega
                · obtain rfl : k = l.length := by omega
                  have i1 : ¬ (l.length : Int) < (l.length : Int) := by omega
                  have p1 : wr.cell? ⟨gm, l.length * 4 + 1, none⟩ = some (.string ⟨#[115, 112, 97, 114, 101]⟩) := blk_cell ((hkq.block gm (blk_lt HMZ.out)).trans HMZ.out) (by rw [List.getElem?_toArray, List.getElem?_append_right (by rw [HNL.out]; omega), HNL.out]; simp)
                  have HKE := hid (show Below w.heap.size w wr from Below.trans HKZ.out (Below.mono hkq HKZ.out.size))
                  clear hk hkq
                  go_wp2_with fail
                  go_ret
                  exact ⟨rfl, HKE.out⟩
/-! ### The row's step (the guide's frame, written by program) -/
set_option maxRecDepth 100000 in
theorem lifted (os : Os) (started : os.Started) (H : Type) (enc : TypeId × Value → H) :
    ReturnsInHanded {} Try.checked os 8 .any (Rows.scanMemorySpec.pre6 enc Try.prog Try.f8 Rows.scanMemoryRow.domain false) (Rows.scanMemorySpec.post enc Try.prog Try.f8 false true false false) := by
  refine returnsInHanded_of_change_sized (C := Try.checked) own started (by kernel_rfl) Try.func8
    (ChangeSpec.witness6 (enc := enc) (C := Try.checked) false ⟨#[], #[.string ⟨#[]⟩], []⟩ 8 (by kernel_rfl) (by kernel_rfl) (by kernel_rfl) (by kernel_rfl)) ?_
  intro W base args ds gs before hval0 hW _ hsz0 _
  have hsz : (DataW.weightsEach Try.prog (Try.f8.params.toList ++ Rows.scanMemorySpec.plain.varTypes Try.prog) (ds ++ gs)).all (· ≤ reachBytes) = true := hsz0
  clear hsz0
  have hval : ∀ (j : Nat) t v, Try.f8.params[j]? = some t → args[j]? = some v → Value.okWide Try.prog W .any base t v := hval0
  have hW' := hW
  obtain ⟨p, q, hA0, hV, rfl, hfz, hnd⟩ := hW
  have hA : DataW.TrodAll enc Try.prog W 0 (fun _ => true) true Try.f8.params.toList args.toList ds p := hA0
  rw [Try.params8] at hA hval hsz
  obtain ⟨v0, vs0, d0, ds0, p0, q0, hargs, rfl, rfl, h0, r0⟩ := trodAll_cons hA
  obtain ⟨rfl, rfl, rfl⟩ := trodAll_nil r0
  obtain rfl : args = #[v0] := by cases args; simp_all
  obtain ⟨rfl, rfl⟩ := trodVars_none hV
  have k0 := h0
  have lt0 : ∀ x ∈ p0, x.block < W.heap.size := by obtain ⟨m, hm⟩ := k0; exact DataW.trod_lt m _ _ _ hm
  have hz0 : ∀ n ∈ DataW.weights Try.prog 9 d0, n ≤ reachBytes := fun n hn => by
    have := List.all_eq_true.1 hsz _ (DataW.weights_mem_each (j := 0) rfl rfl n hn)
    simpa using this
  obtain ⟨a0, rfl, rfl, rfl, ws0⟩ := open_string Try.underlying9 (hval 0 9 v0 rfl rfl) h0
  have w0 : a0.size ≤ 140737488351232 := by
    have h := hz0 a0.data.toList.length (by simp [DataW.weights])
    rw [Array.length_toList] at h; exact h
  clear hA0 hval0
  simp only [List.append_nil] at hW'
  refine (walk a0 W w0).mono fun e W' ⟨he, bel⟩ => ?_
  subst he
  exact ⟨_, rfl, _, _, _, [], _, [], hW', trodAll_mk1 (shut_bool Try.underlying4 _), (trodAll_cons_mk (Below.trod laidOut (by kernel_rfl) (of_decide_eq_true (by kernel_rfl)) k0 bel lt0) trodAll_mk0), rfl, Below.frame bel _, fun h => by cases h⟩

theorem over : Rows.scanMemoryRow.holds Try.pinned (OpenSpec.ofChange Rows.scanMemorySpec) :=
  OpenClaim.holds_of_wide 8 Try.f8 rfl rfl rfl rfl rfl rfl rfl ⟨rfl, rfl, rfl, rfl, rfl⟩ rfl rfl rfl rfl rfl (by kernel_rfl) Try.func8 (by kernel_rfl)
    (of_decide_eq_true (by kernel_rfl)) (by unfold Func.isWrapper; rw [if_neg (of_decide_eq_false (by kernel_rfl))]; exact ⟨rfl, rfl⟩)
    (fun os started H enc _ => lifted os started H enc)

/-- THE STATEMENT. -/
theorem proved : Rows.ScanMemorySaid := over
#print axioms proved

end Go.Proofs.Ytlfgofjmcegeiaa.scanMemory
