/-
  The law PanicsMemory's roomy state: roomyState. Condition: the state's rows lie within the reach.
-/
import Derived.Test.YtiicdknmoakocaaPanRm
import Derived.Test.YtiicdknmoakocaaPanK
import Derived.Deep.DeepCutAuto
import Derived.Test.YtiicdknmoakocaaRegF
import Derived.Deep.RegionLaw
namespace Go.Proofs.Ytiicdknmoakocaa
open Go.RowKit
set_option linter.unusedVariables false
set_option linter.unusedSimpArgs false

theorem RmV.rd {w : World} {base : Nat} {d : Value} {ds : List Int} (h : RmV w base d ds) (hl : ds.length ≤ 1000000) (hr : ∀ x ∈ ds, okI x) : RdInts w d ds := by
  obtain ⟨g, rfl, _, h1⟩ := h
  exact h1.rd (by omega) hr
theorem flat_chunkR {w : World} {base : Nat} : ∀ {L : List (FrameM × Value)}, (∀ x ∈ L, RmV w base x.2 x.1.defers) → (∀ x ∈ L, okF x.1) → Chunk CeFrame 5 w (flatF L) (L.map Prod.fst)
  | [], _, _ => rfl
  | x :: L, h, ho => by
    have h1 := h x (List.mem_cons_self ..)
    have h2 := ho x (List.mem_cons_self ..)
    refine ⟨frCells x.1 x.2, flatF L, rfl, rfl, ⟨x.2, rfl, h2.1, h2.2.1, h2.2.2.1, h2.2.2.2.1, h1.rd h2.2.2.2.2.2 h2.2.2.2.2.1, by have := h2.2.2.2.2.2; omega⟩, flat_chunkR (fun y hy => h y (List.mem_cons_of_mem _ hy)) (fun y hy => ho y (List.mem_cons_of_mem _ hy))⟩
theorem RmRow.rd {w : World} {base : Nat} {v : Value} {F : List FrameM} (h : RmRow w base v F) (ho : ∀ f ∈ F, okF f) : RdL CeFrame 5 w v F := by
  obtain ⟨L, h1, h2, h3⟩ := h
  have hl : L.length = F.length := by rw [← h2, List.length_map]
  refine OwnL.rd (e := 44) (base := base) ⟨flatF L, h1, ?_⟩
  rw [← h2]
  exact flat_chunkR h3 (fun x hx => ho x.1 (by
    have : x.1 ∈ L.map Prod.fst := List.mem_map_of_mem hx
    rw [h2] at this
    exact this))
theorem RmRow.touch {w w' : World} {base : Nat} {fv : Value} {l : List FrameM} {T : TypeId} (h : RmRow w base fv l) (ht : Touch T w w') (n1 : 44 ≠ T) (n2 : 3 ≠ T) : RmRow w' base fv l := by
  obtain ⟨L, h1, h2, h3⟩ := h
  exact ⟨L, ownsRow_touch n1 h1 ht, h2, fun x hx => (h3 x hx).touch ht n2⟩
def RsPost (w : World) (m : StateM) (e : Ending) (w' : World) : Prop := (∃ fv pv, e = .returned (.agg #[fv, pv, .int .i64 m.next, .int .i64 m.serial, .int .i64 m.end_, .int .i64 m.status]) ∧ RmRow w' w.heap.size fv m.frames ∧ PnRow w' w.heap.size pv m.panics.reverse) ∧ Kp w w'
set_option maxRecDepth 20000 in
set_option maxHeartbeats 4000000 in
theorem roomyState_any (v : Value) (m : StateM) (w : World) (h : RdState w v m) (ho : OkSt m) : Calls Try.prog 10 #[v] w (RsPost w m) := by
  obtain ⟨lf, lp, rfl, hf, hfl, hp, hpl, n0, n1, n2, n3⟩ := h
  have HF := hid hf; have HP := hid hp; have HO := hid ho; have HN := hid (show okI m.next ∧ okI m.serial ∧ okI m.end_ ∧ okI m.status from ⟨n0, n1, n2, n3⟩)
  obtain ⟨Af, cf, rfl, hcf⟩ := hf.form
  obtain ⟨Ap, cp, rfl, hcp⟩ := hp.form
  have hnf : m.frames.length ≤ 30 := ho.fl
  have hnp : m.panics.length ≤ 600000000 := ho.pl
  clear hf hp ho n0 n1 n2 n3
  go_enter Try.func10, Try.ntmps10
  obtain ⟨C1, hC1⟩ : ∃ C1, C1 = Obj.cells #[.slice Af m.frames.length cf, .slice Ap m.panics.length cp, .int .i64 m.next, .int .i64 m.serial, .int .i64 m.end_, .int .i64 m.status] 36 := ⟨_, rfl⟩
  obtain ⟨C2, hC2⟩ : ∃ C2, C2 = Obj.cells #[.slice none 0 0, .slice none 0 0, .int .i64 0, .int .i64 0, .int .i64 0, .int .i64 0] 36 := ⟨_, rfl⟩
  have HB1 := hid (show StBox (((w.alloc C1).alloc C2).alloc C1) w.heap.size (.slice Af m.frames.length cf) (.slice Ap m.panics.length cp) m from by rw [hC1]; exact blk_old (blk_old (blk_new _ _) _) _)
  have HB2 := hid (show StBox (((w.alloc C1).alloc C2).alloc C1) (w.heap.size + 1) (.slice none 0 0) (.slice none 0 0) zSt from by rw [hC2]; exact blk_old (blk_new2 _ _ _) _)
  have HB3 := hid (show StBox (((w.alloc C1).alloc C2).alloc C1) (w.heap.size + 1 + 1) (.slice Af m.frames.length cf) (.slice Ap m.panics.length cp) m from by
    have e : ((w.alloc C1).alloc C2).heap.size = w.heap.size + 1 + 1 := by simp
    rw [← e]; unfold StBox; rw [← hC1]; exact blk_new _ _)
  have HK := hid (show Kp w (((w.alloc C1).alloc C2).alloc C1) from (((Kp.refl w).alloc _).alloc _).alloc _)
  have HZ := hid (show (((w.alloc C1).alloc C2).alloc C1).heap.size = w.heap.size + 3 by simp)
  rw [hC1, hC2] at HB1 HB2 HB3 HK HZ
  clear hC1 hC2
  go_upto_region 2 with fail
  generalize (((w.alloc (.cells #[.slice Af m.frames.length cf, .slice Ap m.panics.length cp, .int .i64 m.next, .int .i64 m.serial, .int .i64 m.end_, .int .i64 m.status] 36)).alloc (.cells #[.slice none 0 0, .slice none 0 0, .int .i64 0, .int .i64 0, .int .i64 0, .int .i64 0] 36)).alloc (.cells #[.slice Af m.frames.length cf, .slice Ap m.panics.length cp, .int .i64 m.next, .int .i64 m.serial, .int .i64 m.end_, .int .i64 m.status] 36)) = W1 at HB1 HB2 HB3 HK HZ ⊢
  have hw1 := HK.out.le
  obtain ⟨newsF, hchF, _, hsrcF⟩ := RdL.src HF.out
  obtain ⟨L0, rfl, hL1, hL2⟩ := chunk_flat hchF
  obtain ⟨newsP, hchP, _, hsrcP⟩ := RdL.src HP.out
  have HCP := hid (chunk_p hchP HO.out.pn)
  have HLF := hid hchF.len; have HLP := hid hchP.len
  have HSF : Hid (0 < m.frames.length → ∃ ad, Af = some ad ∧ ∀ j u, (flatF L0)[j]? = some u → W1.cell? (ad.add j) = some u) := hid (fun hp => by obtain ⟨ad, e, hc⟩ := hsrcF hp; exact ⟨ad, e, fun j u hu => cell_some_kp HK.out (hc j u hu)⟩)
  have HSP := hid hsrcP
  have HL1 := hid hL1; have HL2 := hid hL2
  have HOF := hid (flatF_one L0 (fun x hx => rdInts_one (hL2 x hx)))
  have HOP := hid (Chunk.one_ ceP_one HCP.out)
  obtain ⟨c0, _, _, _, _, _, cz⟩ := HB3.out.cells
  obtain ⟨c01, c11, _⟩ := HB1.out.cells
  have hzz := HZ.out
  have B1 := hid (show 0 + m.frames.length ≤ maxLen by unfold maxLen; omega)
  have B2 := hid (show (0 + m.frames.length) * 56 ≤ 140737488355328 by omega)
  clear hchF hsrcF hL1 hL2 hchP hsrcP
  go_wp2_with (at_builtin; go_must (refine app_src elFrame rfl _ _ rfl (World.ownsRow_nil W1 W1.heap.size 44 5) rfl (flatF L0) _ _ _ rfl HLF.out HSF.out HOF.out B1.out B2.out (Nat.le_refl _) ?_); intro v2 w2 hown2 hg2 hm2 hb2; simp only [Nat.zero_add, List.nil_append] at hown2; have HOW2 := hid hown2; have HK2 := hid (show Kp W1 w2 from hb2); obtain ⟨Ag, cg, rfl⟩ := own_form hown2; obtain ⟨d0, _, _, _, _, _, dz⟩ := (HB3.out.kp HK2.out).cells; clear hown2 hb2 hg2 hm2)
  clear c0 cz c01 c11
  have HX3 := hid (HB3.out.kp HK2.out); have HX1 := hid (HB1.out.kp HK2.out); have HX2 := hid (HB2.out.kp HK2.out)
  have HR3 := hid (rowTouch (o := 0) HX3.out (.slice Ag m.frames.length cg))
  have HM := hid (show MidR w w.heap.size (.slice Ag m.frames.length cg) m.frames 0 w2 from ⟨[], L0, own_base (by omega) HOW2.out, by rw [List.nil_append]; exact HL1.out, rfl, (fun x hx => by cases hx), HL2.out⟩)
  have HM3 := hid (HM.out.touch HR3.out (by decide) (by decide))
  have HY3 := hid (show StBox (w2.setCell ⟨w.heap.size + 1 + 1, 0, none⟩ (.slice Ag m.frames.length cg)) (w.heap.size + 1 + 1) (.slice Ag m.frames.length cg) (.slice Ap m.panics.length cp) m from blk_set HX3.out _)
  have HY1 := hid (show StBox (w2.setCell ⟨w.heap.size + 1 + 1, 0, none⟩ (.slice Ag m.frames.length cg)) w.heap.size (.slice Af m.frames.length cf) (.slice Ap m.panics.length cp) m from (blk_far (p := ⟨w.heap.size + 1 + 1, 0, none⟩) (by show w.heap.size ≠ w.heap.size + 1 + 1; omega) _).trans HX1.out)
  have HY2 := hid (show StBox (w2.setCell ⟨w.heap.size + 1 + 1, 0, none⟩ (.slice Ag m.frames.length cg)) (w.heap.size + 1) (.slice none 0 0) (.slice none 0 0) zSt from (blk_far (p := ⟨w.heap.size + 1 + 1, 0, none⟩) (by show w.heap.size + 1 ≠ w.heap.size + 1 + 1; omega) _).trans HX2.out)
  have HK3 := hid ((HK.out.trans HK2.out).setCell (p := ⟨w.heap.size + 1 + 1, 0, none⟩) (by show w.heap.size ≤ w.heap.size + 1 + 1; omega) (.slice Ag m.frames.length cg))
  generalize w2.setCell ⟨w.heap.size + 1 + 1, 0, none⟩ (.slice Ag m.frames.length cg) = W3 at HM3 HY1 HY2 HY3 HK3 ⊢
  obtain ⟨_, c11, _⟩ := HY1.out.cells
  have hw3 := HK3.out.le
  have HSP3 : Hid (0 < m.panics.length → ∃ ad, Ap = some ad ∧ ∀ j u, newsP[j]? = some u → W3.cell? (ad.add j) = some u) := hid (fun hp => by obtain ⟨ad, e, hc⟩ := HSP.out hp; exact ⟨ad, e, fun j u hu => cell_some_kp HK3.out (hc j u hu)⟩)
  have B3 := hid (show 0 + m.panics.length ≤ maxLen by unfold maxLen; omega)
  have B4 := hid (show (0 + m.panics.length) * 72 ≤ 140737488355328 by omega)
  have B5 := hid (show 72 * (m.panics.length + 2) ≤ 281474976710656 by omega)
  have B6 := hid (show m.panics.length + 2 ≤ maxLen by unfold maxLen; omega)
  clear d0 dz HR3 HM HX1 HX2 HX3 HB1 HB2 HB3 HOW2 B1 B2
  obtain ⟨i0, hT, hi, hz0, hz1, hz2, _, _⟩ := elPanic
  have hmk0 : ∀ u : World, (Instr.makeSlice 34 (.int .i64 0) (.int .i64 ((m.panics.length : Int) + 2))).run Try.prog u =
      .ok (.slice (some ⟨u.heap.size, 0, none⟩) 0 (m.panics.length + 2)) (u.alloc (.cells (madeCells (Value.cells (.agg #[.int .i64 0, .int .i64 0, .int .i64 0, .string ⟨#[]⟩, .slice none 0 0, .bool false, .bool false])) ((m.panics.length + 2) * 7)) 46)) := fun u => by
    have h := run_make (P := Try.prog) u 34 46 i0 _ hT hi hz0 .i64 .i64 0 ((m.panics.length : Int) + 2) (Int.le_refl _) (by omega) (by rw [hz2]; omega) (by omega)
    have e : ((m.panics.length : Int) + 2).toNat = m.panics.length + 2 := by omega
    rw [e, hz1] at h
    exact h
  have hms : (madeCells (Value.cells (.agg #[.int .i64 0, .int .i64 0, .int .i64 0, .string ⟨#[]⟩, .slice none 0 0, .bool false, .bool false])) ((m.panics.length + 2) * 7)).size = (m.panics.length + 2) * 7 := by simp [madeCells]
  generalize (madeCells (Value.cells (.agg #[.int .i64 0, .int .i64 0, .int .i64 0, .string ⟨#[]⟩, .slice none 0 0, .bool false, .bool false])) ((m.panics.length + 2) * 7)) = MK at hmk0 hms
  have HMK := hid hms
  clear hi hz0 hz1 hz2 hT hms
  have hl1 := blk_lt HY1.out
  have hl3 := blk_lt HY3.out
  have kw : IntKind.i64.wrap ((m.panics.length : Int) + 2) = (m.panics.length : Int) + 2 := by rw [IntKind.wrap_i64]; omega
  refine (fun (key : ∀ (Aq : Option Addr) (cq : Nat) (W6 : World), Hid (StBox W6 (w.heap.size + 1 + 1) (.slice Ag m.frames.length cg) (.slice Aq m.panics.length cq) m) → Hid (StBox W6 (w.heap.size + 1) (.slice none 0 0) (.slice none 0 0) zSt) → Hid (PnRow W6 w.heap.size (.slice Aq m.panics.length cq) m.panics.reverse) → Hid (MidR w w.heap.size (.slice Ag m.frames.length cg) m.frames 0 W6) → Hid (Kp w W6) → (?C : Option Addr → Nat → World → Prop) Aq cq W6) => ?main) ?key
  case main =>
    go_region_law (refine step_app elPanic rfl (.tmp 14) (.tmp 16) rfl (base := W3.heap.size) (World.ownsRow_made _ MK (m.panics.length + 2) (by simp) B6.out HMK.out) rfl newsP _ _ _ rfl HLP.out (fun hp => by obtain ⟨ad, e, hc⟩ := HSP3.out hp; exact ⟨ad, e, fun j u hu => Lib.cell?_alloc_some _ (hc j u hu)⟩) HOP.out B3.out B4.out (by simp) ?_; intro v5 w5 hown5 hg5 hm5 hb5; simp only [Nat.zero_add, List.nil_append] at hown5; have HO5 := hid hown5; have HK5 := hid (show Kp W3 w5 from Below.trans (((Kp.refl W3).drew).alloc _) hb5); obtain ⟨Aq, cq, rfl⟩ := own_form hown5; obtain ⟨_, d1, _, _, _, _, dz⟩ := (HY3.out.kp HK5.out).cells; clear hown5 hb5 hg5 hm5)
    all_goals
      have hb1 := HY1.out.kp HK5.out
      have hb2 := HY2.out.kp HK5.out
      have hb3 := HY3.out.kp HK5.out
      have ht5 := rowTouch (o := 1) hb3 (.slice Aq m.panics.length cq)
      have HX3 := hid (show StBox (w5.setCell ⟨w.heap.size + 1 + 1, 1, none⟩ (.slice Aq m.panics.length cq)) (w.heap.size + 1 + 1) (.slice Ag m.frames.length cg) (.slice Aq m.panics.length cq) m from blk_set hb3 _)
      have HX2 := hid (show StBox (w5.setCell ⟨w.heap.size + 1 + 1, 1, none⟩ (.slice Aq m.panics.length cq)) (w.heap.size + 1) (.slice none 0 0) (.slice none 0 0) zSt from (blk_far (p := ⟨w.heap.size + 1 + 1, 1, none⟩) (by show w.heap.size + 1 ≠ w.heap.size + 1 + 1; omega) _).trans hb2)
      have HPN := hid (show PnRow (w5.setCell ⟨w.heap.size + 1 + 1, 1, none⟩ (.slice Aq m.panics.length cq)) w.heap.size (.slice Aq m.panics.length cq) m.panics.reverse from PnRow.touch ⟨newsP, by rw [List.reverse_reverse]; exact own_base hw3 HO5.out, by rw [List.reverse_reverse]; exact Chunk.mono (w := w) (w' := w5) (fun _ _ h => h) HCP.out⟩ ht5 (by decide))
      have HM5 := hid ((HM3.out.kp HK5.out).touch ht5 (by decide) (by decide))
      have HK6 := hid ((HK3.out.trans HK5.out).setCell (p := ⟨w.heap.size + 1 + 1, 1, none⟩) (by show w.heap.size ≤ w.heap.size + 1 + 1; omega) (.slice Aq m.panics.length cq))
      clear hb1 hb2 hb3 ht5 d1 dz
      generalize w5.setCell ⟨w.heap.size + 1 + 1, 1, none⟩ (.slice Aq m.panics.length cq) = W6 at HX3 HX2 HPN HM5 HK6 ⊢
      exact key Aq cq W6 HX3 HX2 HPN HM5 HK6
  clear HMK hmk0 kw hl1 hl3 hw3 c11 HSP3 HM3 HY1 HY2 HY3 HK3
  intro Aq cq W6 HX3 HX2 HPN HM5 HK6
  go_wp2
  go_loopw [4] (fun i wr => ∃ k : Nat, k ≤ m.frames.length ∧ i = .int .i64 k ∧ MidR w w.heap.size (.slice Ag m.frames.length cg) m.frames k wr ∧ PnRow wr w.heap.size (.slice Aq m.panics.length cq) m.panics.reverse ∧ StBox wr (w.heap.size + 1 + 1) (.slice Ag m.frames.length cg) (.slice Aq m.panics.length cq) m ∧ StBox wr (w.heap.size + 1) (.slice none 0 0) (.slice none 0 0) zSt ∧ Kp w wr) (fun i _ => m.frames.length - (intOf i).toNat)
  case atStart => exact ⟨0, by omega, rfl, HM5.out, HPN.out, HX3.out, HX2.out, HK6.out⟩
  case round =>
    obtain ⟨k, hk, rfl, hm, hpn, hb3, hb2, hkp⟩ := hrel
    have HMM := hid hm; have HPR := hid hpn; have HX3 := hid hb3; have HX2 := hid hb2; have HKP := hid hkp
    have hwsz := hkp.le
    have hbl := blk_lt hb3
    by_cases hlt : k < m.frames.length
    · obtain ⟨f, hf⟩ : ∃ f, m.frames[k]? = some f := ⟨_, List.getElem?_eq_getElem hlt⟩
      have HFF := hid hf
      have i1 : (k : Int) < (m.frames.length : Int) := by omega
      have i2 : (0 : Int) ≤ (k : Int) := by omega
      have HOK := hid (HO.out.fr f (List.mem_of_getElem? hf))
      obtain ⟨gF, e, hgc⟩ : ∃ gF, Value.slice Ag m.frames.length cg = .slice (some ⟨gF, 0, none⟩) m.frames.length cg ∧ True := by
        obtain ⟨a, b, h1, _⟩ := hm
        obtain ⟨g, c, e, _⟩ := rowSome h1 (by omega)
        injection e with e1 e2 e3
        subst e1; subst e3
        exact ⟨g, rfl, trivial⟩
      injection e with e1 _ _
      subst e1
      obtain ⟨d, q4, qd, qf, qg1, qg2⟩ := MidR.at_ hm hf
      have Q4 := hid q4; have QD := hid qd; have QF := hid qf
      obtain ⟨c0, _, _, _, _, _, _⟩ := hb3.cells
      clear hm hpn hb3 hb2 hkp hf q4 qd qf hgc
      go_wp2
      clear c0
      refine wp_region_last 12 [[], [0], [], [], [3], [], [4, 5], [6], [7], [8], [1, 2], [10], [9, 11]] (fun u => Kp wr u)
        [fun (y : Value) (u : World) => y = (.pointer (some ⟨w.heap.size + 1 + 1, 0, none⟩) : Value),
         fun (y : Value) (u : World) => y = (.slice (some ⟨gF, 0, none⟩) m.frames.length cg : Value),
         fun (y : Value) (u : World) => y = (.int .i64 (k : Int) : Value),
         fun (y : Value) (u : World) => y = (.pointer (some ⟨w.heap.size + 1 + 1, 0, none⟩) : Value),
         fun (y : Value) (u : World) => y = (.slice (some ⟨gF, 0, none⟩) m.frames.length cg : Value),
         fun (y : Value) (u : World) => y = (.int .i64 (k : Int) : Value),
         fun (y : Value) (u : World) => y = (.pointer (some ⟨gF, k * 5, none⟩) : Value),
         fun (y : Value) (u : World) => y = (.pointer (some ⟨gF, k * 5 + 4, none⟩) : Value),
         fun (y : Value) (u : World) => y = (d : Value),
         fun (y : Value) (u : World) => RmV u wr.heap.size y f.defers,
         fun (y : Value) (u : World) => y = (.pointer (some ⟨gF, k * 5, none⟩) : Value),
         fun (y : Value) (u : World) => y = (.pointer (some ⟨gF, k * 5 + 4, none⟩) : Value)]
        (by kernel_rfl) (by kernel_rfl) (by kernel_rfl) (by kernel_rfl) (by kernel_rfl) (by kernel_rfl) ((Kp.refl _).drew) (fun _ _ hk h => h.trans hk) ⟨fun _ _ _ _ h => h, fun _ _ _ _ h => h, fun _ _ _ _ h => h, fun _ _ _ _ h => h, fun _ _ _ _ h => h, fun _ _ _ _ h => h, fun _ _ _ _ h => h, fun _ _ _ _ h => h, fun _ _ _ _ h => h, fun _ _ _ hk h => h.kp hk, fun _ _ _ _ h => h, fun _ _ _ _ h => h, trivial⟩ ⟨?sb0, ?sb1, ?sb2, ?sb3, ?sb4, ?sb5, ?sb6, ?sb7, ?sb8, ?sb9, ?sb10, ?sb11, trivial⟩ ⟨?hEb, trivial⟩
      case sb0 =>
        intro x u hg hd K hK
        clear hd
        refine ⟨?_⟩
        simp only [putsFrom, Act.put, List.setIfInBounds_toArray, List.set_cons_zero, List.set_cons_succ, Nat.reduceAdd] at hK ⊢
        go_simp
        exact hK.out _ _ (Kp.refl _) rfl
      case sb1 =>
        intro x u hg hd K hK
        have d0 : (x 0) = .pointer (some ⟨w.heap.size + 1 + 1, 0, none⟩) := And.left hd
        clear hd
        have q9 := (HX3.out.kp hg).cells.1
        refine ⟨?_⟩
        simp only [putsFrom, Act.put, List.setIfInBounds_toArray, List.set_cons_zero, List.set_cons_succ, Nat.reduceAdd, d0] at hK ⊢
        go_simp
        exact hK.out _ _ (Kp.refl _) rfl
      case sb2 =>
        intro x u hg hd K hK
        clear hd
        refine ⟨?_⟩
        simp only [putsFrom, Act.put, List.setIfInBounds_toArray, List.set_cons_zero, List.set_cons_succ, Nat.reduceAdd] at hK ⊢
        go_simp
        exact hK.out _ _ (Kp.refl _) rfl
      case sb3 =>
        intro x u hg hd K hK
        clear hd
        refine ⟨?_⟩
        simp only [putsFrom, Act.put, List.setIfInBounds_toArray, List.set_cons_zero, List.set_cons_succ, Nat.reduceAdd] at hK ⊢
        go_simp
        exact hK.out _ _ (Kp.refl _) rfl
      case sb4 =>
        intro x u hg hd K hK
        have d3 : (x 3) = .pointer (some ⟨w.heap.size + 1 + 1, 0, none⟩) := And.left hd
        clear hd
        have q9 := (HX3.out.kp hg).cells.1
        refine ⟨?_⟩
        simp only [putsFrom, Act.put, List.setIfInBounds_toArray, List.set_cons_zero, List.set_cons_succ, Nat.reduceAdd, d3] at hK ⊢
        go_simp
        exact hK.out _ _ (Kp.refl _) rfl
      case sb5 =>
        intro x u hg hd K hK
        clear hd
        refine ⟨?_⟩
        simp only [putsFrom, Act.put, List.setIfInBounds_toArray, List.set_cons_zero, List.set_cons_succ, Nat.reduceAdd] at hK ⊢
        go_simp
        exact hK.out _ _ (Kp.refl _) rfl
      case sb6 =>
        intro x u hg hd K hK
        have d4 : (x 4) = .slice (some ⟨gF, 0, none⟩) m.frames.length cg := And.left hd
        have d5 : (x 5) = .int .i64 (k : Int) := And.left (And.right hd)
        clear hd
        refine ⟨?_⟩
        simp only [putsFrom, Act.put, List.setIfInBounds_toArray, List.set_cons_zero, List.set_cons_succ, Nat.reduceAdd, d4, d5] at hK ⊢
        go_simp
        exact hK.out _ _ (Kp.refl _) rfl
      case sb7 =>
        intro x u hg hd K hK
        have d6 : (x 6) = .pointer (some ⟨gF, k * 5, none⟩) := And.left hd
        clear hd
        refine ⟨?_⟩
        simp only [putsFrom, Act.put, List.setIfInBounds_toArray, List.set_cons_zero, List.set_cons_succ, Nat.reduceAdd, d6] at hK ⊢
        go_simp
        exact hK.out _ _ (Kp.refl _) rfl
      case sb8 =>
        intro x u hg hd K hK
        have d7 : (x 7) = .pointer (some ⟨gF, k * 5 + 4, none⟩) := And.left hd
        clear hd
        have q9 := cell_kp hg qg2 Q4.out
        refine ⟨?_⟩
        simp only [putsFrom, Act.put, List.setIfInBounds_toArray, List.set_cons_zero, List.set_cons_succ, Nat.reduceAdd, d7] at hK ⊢
        go_simp
        exact hK.out _ _ (Kp.refl _) rfl
      case sb9 =>
        intro x u hg hd K hK
        have d8 : (x 8) = d := And.left hd
        clear hd
        refine ⟨?_⟩
        simp only [putsFrom, Act.put, List.setIfInBounds_toArray, List.set_cons_zero, List.set_cons_succ, Nat.reduceAdd, d8] at hK ⊢
        go_simp
        go_at_call 31
        have hc := roomy_any d f.defers u ((QD.out.kp HKP.out).kp hg) (by have := HOK.out.2.2.2.2.2; omega)
        refine hc.mono ?_
        clear hc
        rintro e u' ⟨⟨g9, rfl, hge, hrm⟩, hk⟩
        dsimp only
        exact hK.out _ _ hk ⟨g9, rfl, Nat.le_trans hg.le hge, hrm⟩
      case sb10 =>
        intro x u hg hd K hK
        have d1 : (x 1) = .slice (some ⟨gF, 0, none⟩) m.frames.length cg := And.left hd
        have d2 : (x 2) = .int .i64 (k : Int) := And.left (And.right hd)
        clear hd
        refine ⟨?_⟩
        simp only [putsFrom, Act.put, List.setIfInBounds_toArray, List.set_cons_zero, List.set_cons_succ, Nat.reduceAdd, d1, d2] at hK ⊢
        go_simp
        exact hK.out _ _ (Kp.refl _) rfl
      case sb11 =>
        intro x u hg hd K hK
        have d10 : (x 10) = .pointer (some ⟨gF, k * 5, none⟩) := And.left hd
        clear hd
        refine ⟨?_⟩
        simp only [putsFrom, Act.put, List.setIfInBounds_toArray, List.set_cons_zero, List.set_cons_succ, Nat.reduceAdd, d10] at hK ⊢
        go_simp
        exact hK.out _ _ (Kp.refl _) rfl
      intro x u hg he K hK
      have d0 : (x 0) = .pointer (some ⟨w.heap.size + 1 + 1, 0, none⟩) := And.left he
      have d1 : (x 1) = .slice (some ⟨gF, 0, none⟩) m.frames.length cg := And.left (And.right he)
      have d2 : (x 2) = .int .i64 (k : Int) := And.left (And.right (And.right he))
      have d3 : (x 3) = .pointer (some ⟨w.heap.size + 1 + 1, 0, none⟩) := And.left (And.right (And.right (And.right he)))
      have d4 : (x 4) = .slice (some ⟨gF, 0, none⟩) m.frames.length cg := And.left (And.right (And.right (And.right (And.right he))))
      have d5 : (x 5) = .int .i64 (k : Int) := And.left (And.right (And.right (And.right (And.right (And.right he)))))
      have d6 : (x 6) = .pointer (some ⟨gF, k * 5, none⟩) := And.left (And.right (And.right (And.right (And.right (And.right (And.right he))))))
      have d7 : (x 7) = .pointer (some ⟨gF, k * 5 + 4, none⟩) := And.left (And.right (And.right (And.right (And.right (And.right (And.right (And.right he)))))))
      have d8 : (x 8) = d := And.left (And.right (And.right (And.right (And.right (And.right (And.right (And.right (And.right he))))))))
      have d9 : RmV u wr.heap.size (x 9) f.defers := And.left (And.right (And.right (And.right (And.right (And.right (And.right (And.right (And.right (And.right he)))))))))
      have d10 : (x 10) = .pointer (some ⟨gF, k * 5, none⟩) := And.left (And.right (And.right (And.right (And.right (And.right (And.right (And.right (And.right (And.right (And.right he))))))))))
      have d11 : (x 11) = .pointer (some ⟨gF, k * 5 + 4, none⟩) := And.left (And.right (And.right (And.right (And.right (And.right (And.right (And.right (And.right (And.right (And.right (And.right he)))))))))))
      clear he
      obtain ⟨g9, e9, hge9, hrm9⟩ := d9
      have q9 := cell_kp hg qg2 Q4.out
      have qf := ((Kp.cells hg).2 _ (k * 5 + 4) qg2).trans QF.out
      have D9 := hid (show RmV u wr.heap.size (.slice (some ⟨g9, 0, none⟩) f.defers.length (f.defers.length + 2)) f.defers from ⟨g9, rfl, hge9, hrm9⟩)
      have HG := hid hg
      clear hge9 hrm9
      refine ⟨?_⟩
      simp only [putsFrom, Act.put, List.setIfInBounds_toArray, List.set_cons_zero, List.set_cons_succ, Nat.reduceAdd, d0, d1, d2, d3, d4, d5, d6, d7, d8, d10, d11, e9] at hK ⊢
      go_simp
      refine hK.out undef _ ⟨?_⟩
      clear hK
      clear d0 d1 d2 d3 d4 d5 d6 d7 d8 d10 d11
      clear e9 q9 qf
      have hstep := HMM.out.step HFF.out HG.out D9.out hwsz
      have hblkF : ∃ cs fr, u.heap[gF]? = some (.cells cs 44 fr) := by
        obtain ⟨a, b, h1, _⟩ := HMM.out.kp HG.out
        exact rowBlk h1
      obtain ⟨csF, frF, hbF⟩ := hblkF
      have htF := rowTouch (o := k * 5 + 4) hbF (.slice (some ⟨g9, 0, none⟩) f.defers.length (f.defers.length + 2))
      have HS1 := hid hstep
      have HS2 := hid ((HX3.out.kp HG.out).touch htF (by decide)); have HS3 := hid ((HX2.out.kp HG.out).touch htF (by decide)); have HS5 := hid ((HPR.out.kp HG.out).touch htF (by decide))
      have HS4 := hid ((HKP.out.trans HG.out).setCell (p := ⟨gF, k * 5 + 4, none⟩) qg1 (.slice (some ⟨g9, 0, none⟩) f.defers.length (f.defers.length + 2)))
      clear hstep hbF htF
      go_wp2
      go_roundw
      case rel => exact ⟨k + 1, hlt, by simp, HS1.out, HS5.out, HS2.out, HS3.out, HS4.out⟩
      case measure => simp [intOf]; omega
    · obtain rfl : k = m.frames.length := by omega
      have i1 : ¬ (m.frames.length : Int) < (m.frames.length : Int) := by omega
      obtain ⟨a0, a1, a2, a3, a4, a5, _⟩ := hb3.cells
      obtain ⟨b0, b1, b2, b3, b4, b5, bf⟩ := hb2.cells
      have HFD := hid hm.done
      clear hm hpn hb3 hb2 hkp
      obtain ⟨g1, g2⟩ := turnBox (fv := .slice Ag m.frames.length cg) (pv := .slice Aq m.panics.length cq) (stM m) HX2.out
      have HT := hid g1; have HG2 := hid g2
      have HKE := hid (turnBelow (br := w.heap.size + 1) (Nat.le_succ _) HKP.out (.slice Ag m.frames.length cg) (.slice Aq m.panics.length cq) (.int .i64 m.next) (.int .i64 m.serial) (.int .i64 m.end_) (.int .i64 m.status))
      have HE1 := hid (HFD.out.touch HT.out (by decide) (by decide))
      have HE2 := hid (HPR.out.touch HT.out (by decide))
      clear g1 g2
      go_wp2
      clear a0 a1 a2 a3 a4 a5 b0 b1 b2 b3 b4 b5 bf
      have HG3 := hid (show StBox ((((((wr.setCell ⟨w.heap.size + 1, 0, none⟩ (.slice Ag m.frames.length cg)).setCell ⟨w.heap.size + 1, 1, none⟩ (.slice Aq m.panics.length cq)).setCell ⟨w.heap.size + 1, 2, none⟩ (.int .i64 m.next)).setCell ⟨w.heap.size + 1, 3, none⟩ (.int .i64 m.serial)).setCell ⟨w.heap.size + 1, 4, none⟩ (.int .i64 m.end_)).setCell ⟨w.heap.size + 1, 5, none⟩ (.int .i64 m.status)) (w.heap.size + 1) (.slice Ag m.frames.length cg) (.slice Aq m.panics.length cq) m from HG2.out)
      have HE3 := hid (show RmRow ((((((wr.setCell ⟨w.heap.size + 1, 0, none⟩ (.slice Ag m.frames.length cg)).setCell ⟨w.heap.size + 1, 1, none⟩ (.slice Aq m.panics.length cq)).setCell ⟨w.heap.size + 1, 2, none⟩ (.int .i64 m.next)).setCell ⟨w.heap.size + 1, 3, none⟩ (.int .i64 m.serial)).setCell ⟨w.heap.size + 1, 4, none⟩ (.int .i64 m.end_)).setCell ⟨w.heap.size + 1, 5, none⟩ (.int .i64 m.status)) w.heap.size (.slice Ag m.frames.length cg) m.frames from HE1.out)
      have HE4 := hid (show PnRow ((((((wr.setCell ⟨w.heap.size + 1, 0, none⟩ (.slice Ag m.frames.length cg)).setCell ⟨w.heap.size + 1, 1, none⟩ (.slice Aq m.panics.length cq)).setCell ⟨w.heap.size + 1, 2, none⟩ (.int .i64 m.next)).setCell ⟨w.heap.size + 1, 3, none⟩ (.int .i64 m.serial)).setCell ⟨w.heap.size + 1, 4, none⟩ (.int .i64 m.end_)).setCell ⟨w.heap.size + 1, 5, none⟩ (.int .i64 m.status)) w.heap.size (.slice Aq m.panics.length cq) m.panics.reverse from HE2.out)
      clear HG2 HE1 HE2 HT
      generalize ((((((wr.setCell ⟨w.heap.size + 1, 0, none⟩ (.slice Ag m.frames.length cg)).setCell ⟨w.heap.size + 1, 1, none⟩ (.slice Aq m.panics.length cq)).setCell ⟨w.heap.size + 1, 2, none⟩ (.int .i64 m.next)).setCell ⟨w.heap.size + 1, 3, none⟩ (.int .i64 m.serial)).setCell ⟨w.heap.size + 1, 4, none⟩ (.int .i64 m.end_)).setCell ⟨w.heap.size + 1, 5, none⟩ (.int .i64 m.status)) = WE at HG3 HE3 HE4 HKE ⊢
      obtain ⟨a0, a1, a2, a3, a4, a5, _⟩ := HG3.out.cells
      exact bodyPost_ret (v := .agg #[.slice Ag m.frames.length cg, .slice Aq m.panics.length cq, .int .i64 m.next, .int .i64 m.serial, .int .i64 m.end_, .int .i64 m.status]) (by simp [results, Try.results10, go_sem, a0, a1, a2, a3, a4, a5]) rfl ⟨⟨_, _, rfl, HE3.out, HE4.out⟩, HKE.out⟩
end Go.Proofs.Ytiicdknmoakocaa
