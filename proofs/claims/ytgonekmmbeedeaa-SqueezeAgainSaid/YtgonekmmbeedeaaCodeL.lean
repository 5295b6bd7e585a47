/-
  The laws' own words of codes: copied, sameCode, least. Condition: what comes in lies within the reach.
-/
import Derived.Test.YtgonekmmbeedeaaOCode
import Derived.Test.YtgonekmmbeedeaaSoundS
import Derived.Test.YtgonekmmbeedeaaApp
import Derived.Test.YtgonekmmbeedeaaRegF
import Derived.Deep.QuietTactic
import Derived.BigQuiet
namespace Go.Proofs.Ytgonekmmbeedeaa
open Go.RowKit
set_option linter.unusedVariables false
set_option linter.unusedSimpArgs false

theorem ne_ins (a b c d e f : Int) (w : World) : Sem.run Try.prog (binOp .neq 64 (.agg #[.int .i64 a, .int .i64 b, .int .i64 c, .int .i64 d, .int .i64 e, .int .i64 f]) (.agg #[.int .i64 a, .int .i64 b, .int .i64 c, .int .i64 d, .int .i64 e, .int .i64 f])) w = .ok (.bool false) w := by simp [go_sem]
theorem RdL.news {α : Type} {el : World → List Value → α → Prop} {sz : Nat} {w : World} {A : Option Addr} {n c : Nat} {l : List α} (h : RdL el sz w (.slice A n c) l) : n = l.length := by obtain ⟨_, _, h1, _⟩ := h; cases h1; rfl
theorem grown_none {w w' : World} (h : w.grownBy w' none) : Kp w w' := (Below.refl _ _).grown h (Nat.le_refl _) (fun k hk => by cases hk)
/-- What copied has done: k functions are copied. -/
structure CpI (w : World) (B n0 n1 nd : Nat) (lf lt vt : Value) (c : CodeM) (k : Nat) (vf : Value) (wr : World) : Prop where
  kp : Kp w wr
  code : wr.heap[n0]? = some (.cells #[lf, lt] 25 (0, 0))
  res : wr.heap[n1]? = some (.cells #[.slice none 0 0, .slice none 0 0] 25 (0, 0))
  box : wr.heap[nd]? = some (.cells #[vf, vt] 25 (0, 0))
  fns : OwnL (CeOFn B) 5 45 wr B vf (c.funcs.take k)
  txs : OwnL CeStr 1 9 wr B vt c.texts
theorem CpI.alloc {w wr : World} {B n0 n1 nd k : Nat} {lf lt vt vf : Value} {c : CodeM} (h : CpI w B n0 n1 nd lf lt vt c k vf wr) (o : Obj) : CpI w B n0 n1 nd lf lt vt c k vf (wr.alloc o) :=
  ⟨h.kp.alloc o, blk_old h.code o, blk_old h.res o, blk_old h.box o, h.fns.kp CeOFn.kp ((Kp.refl _).alloc o), h.txs.kp CeStr.kp ((Kp.refl _).alloc o)⟩
theorem CpI.keep {w wr w' : World} {B n0 n1 nd k : Nat} {lf lt vt vf : Value} {c : CodeM} (h : CpI w B n0 n1 nd lf lt vt c k vf wr) (hk : Kp wr w') : CpI w B n0 n1 nd lf lt vt c k vf w' :=
  ⟨h.kp.trans hk, (hk.block _ (blk_lt h.code)).trans h.code, (hk.block _ (blk_lt h.res)).trans h.res, (hk.block _ (blk_lt h.box)).trans h.box, h.fns.kp CeOFn.kp hk, h.txs.kp CeStr.kp hk⟩
theorem CpI.row_lt {w wr : World} {B n0 n1 nd k : Nat} {lf lt vt vf : Value} {c : CodeM} (h : CpI w B n0 n1 nd lf lt vt c k vf wr) : ∀ g, vf.ownBlock = some g → g < wr.heap.size := by
  obtain ⟨xs, q, _⟩ := h.fns; exact fun g hg => (q.lt g hg).2
theorem CpI.setFn {w wr : World} {B n0 n1 nd k nf : Nat} {lf lt vt vf : Value} {c : CodeM} {cs : Array Value} (h : CpI w B n0 n1 nd lf lt vt c k vf wr) (hw : w.heap.size ≤ nf) (hb : wr.heap[nf]? = some (.cells cs 45 (0, 0))) (hne : ∀ g, vf.ownBlock = some g → g ≠ nf) (v : Value) : CpI w B n0 n1 nd lf lt vt c k vf (wr.setCell ⟨nf, 4, none⟩ v) := by
  have ht := rowTouch (o := 4) hb v
  refine ⟨h.kp.setCell (p := ⟨nf, 4, none⟩) hw v, ht.2 _ _ h.code ?_, ht.2 _ _ h.res ?_, ht.2 _ _ h.box ?_, ?_, ownL_touch (by decide) (fun _ _ x => CeStr.any x) h.txs ht⟩
  · exact fun cs fr e => by injection e with _ e _; exact absurd e (by decide)
  · exact fun cs fr e => by injection e with _ e _; exact absurd e (by decide)
  · exact fun cs fr e => by injection e with _ e _; exact absurd e (by decide)
  · exact ownL_kept (fun _ _ x => x.touch (by decide) ht) h.fns (grown_setCell (b := nf) (o := 4) v) (fun g hg e => hne g hg (by injection e))
theorem CpI.step {w wr w' : World} {B n0 n1 nd k : Nat} {lf lt vt vf v' : Value} {c : CodeM} (h : CpI w B n0 n1 nd lf lt vt c k vf wr) (ht : Touch 45 wr w') (hb : Below B wr w') (hw : w.heap.size ≤ B) (hnd : B ≤ nd) (hn : n0 < B ∧ n1 < B) (hbx : w'.heap[nd]? = some (.cells #[vf, vt] 25 (0, 0))) (hrow : OwnL (CeOFn B) 5 45 w' B v' (c.funcs.take (k + 1))) : CpI w B n0 n1 nd lf lt vt c (k + 1) v' (w'.setCell ⟨nd, 0, none⟩ v') := by
  have hs := rowTouch (o := 0) hbx v'
  have hx : ∀ (b : Nat) (o : Obj), b ≠ nd → w'.heap[b]? = some o → (w'.setCell ⟨nd, 0, none⟩ v').heap[b]? = some o := fun b o hb ho => (blk_far (p := ⟨nd, 0, none⟩) hb v').trans ho
  have hne : ∀ (b : Nat) (cs : Array Value) , wr.heap[b]? = some (.cells cs 25 (0, 0)) → w'.heap[b]? = some (.cells cs 25 (0, 0)) := fun b cs h => ht.2 _ _ h (fun cs fr e => by injection e with _ e _; exact absurd e (by decide))
  refine ⟨(Below.trans h.kp (Below.mono hb hw)).setCell (p := ⟨nd, 0, none⟩) (by show w.heap.size ≤ nd; omega) v', hx _ _ (by omega) (hne _ _ h.code), hx _ _ (by omega) (hne _ _ h.res), blk_set hbx v', ownL_touch (by decide) (fun _ _ x => x.touch (by decide) hs) hrow hs, ownL_touch (by decide) (fun _ _ x => CeStr.any x) (ownL_touch (e := 45) (by decide) (fun _ _ x => CeStr.any x) h.txs ht) hs⟩
/-- The result. -/
theorem CpI.fin {w wr : World} {B n0 n1 nd : Nat} {A1 A2 : Option Addr} {c1 c2 : Nat} {lf lt : Value} {c : CodeM} (h : CpI w B n0 n1 nd lf lt (.slice A2 c.texts.length c2) c c.funcs.length (.slice A1 c.funcs.length c1) wr) (hw : w.heap.size ≤ n1 ∧ w.heap.size ≤ B) (hf : c.funcs.length * 64 ≤ 140737488351232) (ht : c.texts.length * 16 ≤ 140737488351232) :
    (∃ v', Ending.returned (.agg #[.slice A1 c.funcs.length c1, .slice A2 c.texts.length c2]) = .returned v' ∧ OCode ((wr.setCell ⟨n1, 0, none⟩ (.slice A1 c.funcs.length c1)).setCell ⟨n1, 1, none⟩ (.slice A2 c.texts.length c2)) w.heap.size v' c) ∧ Kp w ((wr.setCell ⟨n1, 0, none⟩ (.slice A1 c.funcs.length c1)).setCell ⟨n1, 1, none⟩ (.slice A2 c.texts.length c2)) := by
  have t1 := rowTouch (o := 0) h.res (.slice A1 c.funcs.length c1)
  have t2 := rowTouch (o := 1) (blk_set (o := 0) h.res (.slice A1 c.funcs.length c1)) (.slice A2 c.texts.length c2)
  have t := t1.trans t2
  have hfn := h.fns
  rw [List.take_length] at hfn
  exact ⟨⟨_, rfl, _, _, rfl, OwnL.base_ hw.2 (ownL_touch (by decide) (fun _ _ x => x.touch (by decide) t) (OwnL.mono (fun _ _ x => x.base_ hw.2) hfn) t), OwnL.base_ hw.2 (ownL_touch (by decide) (fun _ _ x => CeStr.any x) h.txs t), hf, ht⟩, (h.kp.setCell (p := ⟨n1, 0, none⟩) hw.1 _).setCell (p := ⟨n1, 1, none⟩) hw.1 _⟩
theorem str_one {w : World} : ∀ cs (a : ByteArray), CeStr w cs a → ∀ u ∈ cs, u.oneCell' = true := by
  rintro cs a ⟨rfl, _⟩ u hu
  simp at hu; subst hu; rfl
theorem ins_one {w : World} : ∀ cs (a : InsM), CeIns w cs a → ∀ u ∈ cs, u.oneCell' = true := by
  rintro cs a ⟨rfl, _⟩ u hu
  simp at hu; rcases hu with rfl | rfl | rfl | rfl | rfl | rfl <;> rfl
set_option maxRecDepth 20000 in
set_option maxHeartbeats 16000000 in
theorem copied_any (w : World) (v : Value) (c : CodeM) (h : RdCode w v c) : Calls Try.prog 16 #[v] w fun e w' => (∃ v', e = .returned v' ∧ OCode w' w.heap.size v' c) ∧ Kp w w' := by
  obtain ⟨lf, lt, rfl, hf, hfl, ht, htl⟩ := h
  have HF := hid hf
  have HT := hid ht
  obtain ⟨Af, cf, rfl, _⟩ := hf.form
  obtain ⟨At, ct, rfl, _⟩ := ht.form
  have HFL := hid hfl
  have HTL := hid htl
  clear hf ht hfl htl
  have HK0 := hid (show Kp w ((w.alloc (.cells #[.slice Af c.funcs.length cf, .slice At c.texts.length ct] 25)).alloc (.cells #[.slice none 0 0, .slice none 0 0] 25)) from ((Kp.refl _).alloc _).alloc _)
  obtain ⟨news, hch, hnl, hsrc⟩ := (HT.out.kp CeStr.kp HK0.out).src
  have HCH := hid hch
  have HSRC := hid hsrc
  have hnn := hch.len
  clear hch hsrc hnl
  go_enter Try.func16, Try.ntmps16
  go_wp2_with (at_builtin; refine app_src elStrW ?p0 (.const (.slice none 0 0)) (.tmp 7) ?p1 (base := w.heap.size + 1 + 1) (World.ownsRow_nil _ _ _ _) ?p2 news At c.texts.length ct ?p3 ?p4 HSRC.out ?p5 ?p6 ?p7 ?p8 ?p9)
  case p0 => rfl
  case p1 => rfl
  case p2 => rfl
  case p3 => rfl
  case p4 => omega
  case p5 => exact Chunk.one_ (fun cs a h => str_one cs a h) HCH.out
  case p6 => have := HTL.out; unfold maxLen; omega
  case p7 => have := HTL.out; omega
  case p8 => simp
  case p9 =>
    intro v1 w1 hown1 hg1 _ _
    obtain ⟨A1, c1, rfl⟩ := own_form hown1
    have HK1 := hid (grown_none hg1)
    have HOT : Hid (OwnL CeStr 1 9 w1 (w.heap.size + 1 + 1) (.slice A1 c.texts.length c1) c.texts) := hid ⟨news, hown1, Chunk.mono (fun _ _ h => CeStr.any h) HCH.out⟩
    have hkb := HK1.out
    have HB0 := hid ((hkb.block _ (by simp; omega)).trans (blk_old (blk_new w (.cells #[.slice Af c.funcs.length cf, .slice At c.texts.length ct] 25)) (.cells #[.slice none 0 0, .slice none 0 0] 25)))
    have HB1 : Hid (w1.heap[w.heap.size + 1]? = some (.cells #[.slice none 0 0, .slice none 0 0] 25 (0, 0))) := hid ((hkb.block _ (by simp)).trans (by have h := blk_new (w.alloc (.cells #[.slice Af c.funcs.length cf, .slice At c.texts.length ct] 25)) (.cells #[.slice none 0 0, .slice none 0 0] 25); rw [World.size_alloc] at h; exact h))
    have HKW := hid (HK0.out.trans HK1.out)
    have HBS := hid (show w.heap.size + 1 + 1 ≤ w1.heap.size by have h := HK1.out.le; simp at h; omega)
    clear hown1 hg1 hkb
    go_wp2_with fail
    have HBD := hid (blk_new w1 (.cells #[.slice none 0 0, .slice A1 c.texts.length c1] 25))
    have HCP : Hid (CpI w (w.heap.size + 1 + 1) w.heap.size (w.heap.size + 1) w1.heap.size (.slice Af c.funcs.length cf) (.slice At c.texts.length ct) (.slice A1 c.texts.length c1) c 0 (.slice none 0 0) (w1.alloc (.cells #[.slice none 0 0, .slice A1 c.texts.length c1] 25))) := hid ⟨HKW.out.alloc _, blk_old HB0.out _, blk_old HB1.out _, blk_new _ _, OwnL.nil _ _ _ _ _, HOT.out.kp CeStr.kp ((Kp.refl _).alloc _)⟩
    generalize (w1.alloc (.cells #[.slice none 0 0, .slice A1 c.texts.length c1] 25)) = W2 at HCP ⊢
    have HN := hid (show w.heap.size + 1 + 1 ≤ w1.heap.size from HBS.out)
    generalize w1.heap.size = nd at HCP HN ⊢
    obtain ⟨B, hB⟩ : ∃ B, w.heap.size + 1 + 1 = B := ⟨_, rfl⟩
    obtain ⟨n1, hn1⟩ : ∃ n1, w.heap.size + 1 = n1 := ⟨_, rfl⟩
    obtain ⟨n0, hn0⟩ : ∃ n0, w.heap.size = n0 := ⟨_, rfl⟩
    have HNN := hid (show w.heap.size = n0 ∧ n0 + 1 = n1 ∧ n1 + 1 = B by omega)
    rw [hB] at HCP HN
    rw [hn1] at HCP ⊢
    rw [hn0] at HCP ⊢
    clear hB hn1 hn0
    go_loopw [4] (fun x wr => ∃ (k : Nat) (A : Option Addr) (cc : Nat), k ≤ c.funcs.length ∧ x = .int .i64 (k : Int) ∧ CpI w B n0 n1 nd (.slice Af c.funcs.length cf) (.slice At c.texts.length ct) (.slice A1 c.texts.length c1) c k (.slice A k cc) wr) (fun x _ => c.funcs.length - (intOf x).toNat)
    case atStart => exact ⟨0, none, 0, Nat.zero_le _, rfl, HCP.out⟩
    case round =>
      obtain ⟨k, Ad, cd, hk, rfl, hcp⟩ := hrel
      have HC := hid hcp
      have q0 := blk_cell (o := 0) (v := Value.slice Af c.funcs.length cf) hcp.code rfl
      have d0 := blk_cell (o := 0) (v := Value.slice Ad k cd) hcp.box rfl
      have d1 := blk_cell (o := 1) (v := Value.slice A1 c.texts.length c1) hcp.box rfl
      have ql := blk_lt hcp.code
      have dl := blk_lt hcp.box
      by_cases hlt : k < c.funcs.length
      · have i1 : (k : Int) < (c.funcs.length : Int) := by omega
        have k1 : IntKind.i64.wrap ((k : Int) + 1) = (k : Int) + 1 := by have := HFL.out; rw [IntKind.wrap_i64]; omega
        obtain ⟨f, hf⟩ : ∃ f, c.funcs[k]? = some f := ⟨_, List.getElem?_eq_getElem hlt⟩
        obtain ⟨b, off, rfl, hbl, lins, p0, p1, p2, p3, p4, hns, hp_, hs_, hc_, hins, hil⟩ := at_fn HF.out hf
        have p0 := cell_kp hcp.kp hbl p0
        have p1 := cell_kp hcp.kp hbl p1
        have p2 := cell_kp hcp.kp hbl p2
        have p3 := cell_kp hcp.kp hbl p3
        have p4 := cell_kp hcp.kp hbl p4
        have hbl := Nat.lt_of_lt_of_le hbl hcp.kp.le
        obtain ⟨Ai, ci, rfl, _⟩ := hins.form
        obtain ⟨newi, hci, _, hsi⟩ := (hins.kp CeIns.kp (hcp.kp.alloc (.cells #[.string f.name, .int .i64 f.params, .int .i64 f.slots, .int .i64 f.caps, .slice Ai f.ins.length ci] 45))).src
        have HSI := hid hsi
        have HCI := hid hci
        have hnl := hci.len
        have HFK := hid hf
        have HOF := hid (show okFnB f from ⟨hns, hp_, hs_, hc_, hil⟩)
        have HIL := hid hil
        have HBF := hid (blk_new wr (.cells #[.string f.name, .int .i64 f.params, .int .i64 f.slots, .int .i64 f.caps, .slice Ai f.ins.length ci] 45))
        have HCA := hid (hcp.alloc (.cells #[.string f.name, .int .i64 f.params, .int .i64 f.slots, .int .i64 f.caps, .slice Ai f.ins.length ci] 45))
        have HRN := hid hcp.row_lt
        clear hcp hf hins hns hp_ hs_ hc_ hil hci hsi d1
        go_upto_region 6 with fail
        go_wp2_with (at_builtin; refine app_src elIns ?p0 (.const (.slice none 0 0)) (.tmp 23) ?p1 (base := wr.heap.size + 1) (World.ownsRow_nil _ _ _ _) ?p2 newi Ai f.ins.length ci ?p3 ?p4 HSI.out ?p5 ?p6 ?p7 ?p8 ?p9)
        case p0 => rfl
        case p1 => rfl
        case p5 => exact Chunk.one_ (fun cs a h => ins_one cs a h) HCI.out
        case p6 => have := HIL.out; unfold maxLen; omega
        case p7 => have := HIL.out; omega
        case p9 =>
          intro v3 w3 hown3 hg3 _ _
          obtain ⟨A3, c3, rfl⟩ := own_form hown3
          have hk3 := grown_none hg3
          have HC3 := hid (HCA.out.keep hk3)
          have HB3 := hid ((hk3.block _ (blk_lt HBF.out)).trans HBF.out)
          have HI3 : Hid (OwnL CeIns 6 64 w3 (wr.heap.size + 1) (.slice A3 f.ins.length c3) f.ins) := hid ⟨newi, hown3, Chunk.mono (fun _ _ h => CeIns.any h) HCI.out⟩
          have f4 := blk_cell (o := 4) (v := Value.slice Ai f.ins.length ci) HB3.out rfl
          have ff := blk_free (o := 4) HB3.out
          have fl := blk_lt HB3.out
          have HNF := hid (show ∀ g, (Value.slice Ad k cd).ownBlock = some g → g ≠ wr.heap.size from fun g hg => by have := HRN.out g hg; omega)
          have HBW := hid (show B ≤ wr.heap.size by have h := blk_lt HC.out.box; have := HN.out; omega)
          clear hown3 hg3 hk3
          go_upto_region 7 with fail
          have HCS := hid (HC3.out.setFn (by have := HNN.out; have := HBW.out; omega) HB3.out HNF.out (.slice A3 f.ins.length c3))
          have HBS2 := hid (blk_set (o := 4) HB3.out (.slice A3 f.ins.length c3))
          have HIS := hid (ownL_touch (e := 45) (by decide) (fun _ _ x => CeIns.any x) HI3.out (rowTouch (o := 4) HB3.out (.slice A3 f.ins.length c3)))
          generalize (w3.setCell ⟨wr.heap.size, 4, none⟩ (.slice A3 f.ins.length c3)) = wS at HCS HBS2 HIS ⊢
          clear f4 ff fl d0 dl q0 ql p0 p1 p2 p3 p4
          have e0 := blk_cell (o := 0) (v := Value.slice Ad k cd) HCS.out.box rfl
          have el := blk_lt HCS.out.box
          have g0 := blk_cell (o := 0) (v := Value.string f.name) HBS2.out rfl
          have g1 := blk_cell (o := 1) (v := Value.int .i64 f.params) HBS2.out rfl
          have g2 := blk_cell (o := 2) (v := Value.int .i64 f.slots) HBS2.out rfl
          have g3 := blk_cell (o := 3) (v := Value.int .i64 f.caps) HBS2.out rfl
          have g4 := blk_cell (o := 4) (v := Value.slice A3 f.ins.length c3) HBS2.out rfl
          have gl := blk_lt HBS2.out
          have hlk : (c.funcs.take k).length = k := by rw [List.length_take]; omega
          obtain ⟨xsf, l1, l2⟩ := HCS.out.fns
          rw [hlk] at l1
          have HL1 := hid l1
          have HL2 := hid l2
          have HLK := hid hlk
          clear l1 l2 hlk
          go_wp2_with (at_builtin; refine app_lit elFn ?r0 (.tmp 27) (.tmp 29) ?r1 HL1.out ?r2 #[.string f.name, .int .i64 f.params, .int .i64 f.slots, .int .i64 f.caps, .slice A3 f.ins.length c3] 45 1 1 ?r3 ?r4 ?r5 ?r6 ?r7 ?r8 ?r9)
          case r0 => rfl
          case r1 => rfl
          case r2 => rfl
          case r3 => rfl
          case r4 => rfl
          case r5 => repeat' (first | exact rfl | refine ⟨?_, ?_⟩)
          case r6 => have := HFL.out; unfold maxLen; omega
          case r7 => have := HFL.out; omega
          case r8 => have := HCS.out.kp.le; have := blk_lt HCS.out.box; have := HN.out; omega
          case r9 =>
            intro v' w' G1 G2 _ _ G4
            obtain ⟨A', c', rfl⟩ := own_form G1
            have ht := Touch.of_grown HL1.out G2
            have hbx2 : w'.heap[nd]? = some (.cells #[.slice Ad k cd, .slice A1 c.texts.length c1] 25 (0, 0)) := ht.2 _ _ HCS.out.box (fun cs fr e => by injection e with _ e _; exact absurd e (by decide))
            have hins : OwnL CeIns 6 64 w' B (.slice A3 f.ins.length c3) f.ins := OwnL.base_ (by have := HBW.out; omega) (ownL_touch (e := 45) (by decide) (fun _ _ x => CeIns.any x) HIS.out ht)
            have hrow := OwnL.snoc (a := f) (n := k + 1) (by rw [HLK.out]) HL2.out (fun cs a h => h.touch (by decide) ht) ⟨.slice A3 f.ins.length c3, rfl, hins, HOF.out⟩ rfl G1
            rw [take_snoc HFK.out] at hrow
            have HXE := hid (HCS.out.step ht G4 (by have := HNN.out; omega) (by have := HN.out; omega) (by have := HNN.out; omega) hbx2 hrow)
            have s0 := blk_cell (o := 0) (v := Value.slice Ad k cd) hbx2 rfl
            have s1 := blk_free (o := 0) hbx2
            have sl := blk_lt hbx2
            clear G1 G2 G4 ht hbx2 hrow hins e0 el g0 g1 g2 g3 g4 gl
            go_wp2
            exact ⟨⟨k + 1, A', c', hlt, by congr 1, HXE.out⟩, by simp only [intOf, Int.toNat_natCast]; omega⟩
      · have i1 : ¬ (k : Int) < (c.funcs.length : Int) := by omega
        obtain rfl : k = c.funcs.length := by omega
        have r0 := blk_cell (o := 0) (v := Value.slice none 0 0) HC.out.res rfl
        have r1 := blk_cell (o := 1) (v := Value.slice none 0 0) HC.out.res rfl
        have rf0 := blk_free (o := 0) HC.out.res
        have rf1 := blk_free (o := 1) HC.out.res
        have rl := blk_lt HC.out.res
        clear hcp hlt hk
        go_wp2
        have b0 : BoxAt wr n1 0 := BoxAt.mk_ (blk_cell (o := 0) (v := Value.slice none 0 0) HC.out.res rfl) (blk_free HC.out.res)
        have b1 : BoxAt wr n1 1 := BoxAt.mk_ (blk_cell (o := 1) (v := Value.slice none 0 0) HC.out.res rfl) (blk_free HC.out.res)
        obtain ⟨z0, z1⟩ := set2_cells b0 b1 (.slice Ad c.funcs.length cd) (.slice A1 c.texts.length c1)
        refine bodyPost_ret (v := .agg #[.slice Ad c.funcs.length cd, .slice A1 c.texts.length c1]) (by simp [results, Try.results16, go_sem, z0, z1]) rfl ?_
        exact HC.out.fin (by have := HNN.out; omega) HFL.out HTL.out
end Go.Proofs.Ytgonekmmbeedeaa
