/-
  The laws' own events: a list of events made such as may happen. Condition: what comes in lies within the reach.
-/
import Derived.Test.YtiicdknmoakocaaPanX
import Derived.Test.YtiicdknmoakocaaSpot
namespace Go.Proofs.Ytiicdknmoakocaa
open Go.RowKit
set_option linter.unusedVariables false
set_option linter.unusedSimpArgs false

def okV (k : Int) : Prop := k = 1 ∨ k = 3 ∨ k = 5
instance (k : Int) : Decidable (okV k) := by unfold okV; infer_instance
def kind1 (k : Int) : Int := 1 + spotV (wrap64 (k - 1)) 6
def vk1 (k v : Int) : Int := if k = 4 ∧ ¬ okV v then 1 else v
def vk2 (k v : Int) : Int := if k = 4 ∧ ¬ (v = 3 ∨ v = 5) then 1 else v
def evM (e : EventM) : EventM := ⟨kind1 e.kind, e.n, ⟨vk2 (kind1 e.kind) (vk1 e.kind e.v.k), e.v.n, e.v.s, e.v.l⟩⟩
def eventsM (l : List EventM) : List EventM := (l.take 400).map evM
theorem kind1_bd (k : Int) : 1 ≤ kind1 k ∧ kind1 k ≤ 6 := by
  have := spotV_bd (wrap64 (k - 1)) 6 (by omega)
  unfold kind1; omega
theorem evM_ok (e : EventM) : okEv (evM e) := by
  have h := kind1_bd e.kind
  refine ⟨by show kind1 e.kind = 1 ∨ _; show kind1 e.kind = 1 ∨ kind1 e.kind = 2 ∨ kind1 e.kind = 3 ∨ kind1 e.kind = 4 ∨ kind1 e.kind = 5 ∨ kind1 e.kind = 6; omega, fun hk => ?_⟩
  have hk' : kind1 e.kind = 4 := hk
  show mayM ⟨vk2 (kind1 e.kind) (vk1 e.kind e.v.k), _, _, _⟩ = true
  rw [hk']
  unfold mayM vk2
  by_cases hv : vk1 e.kind e.v.k = 3 ∨ vk1 e.kind e.v.k = 5
  · rw [if_neg (fun h => h.2 hv)]
    rcases hv with hv | hv <;> simp [hv]
  · rw [if_pos ⟨rfl, hv⟩]; rfl
/-- Events that may happen stay as they are. -/
theorem evM_id {e : EventM} (h : okEv e) : evM e = e := by
  have hk : 1 ≤ e.kind ∧ e.kind ≤ 6 := by have := h.1; omega
  have hw : wrap64 (e.kind - 1) = e.kind - 1 := by unfold wrap64; omega
  have hs : spotV (e.kind - 1) 6 = e.kind - 1 := by
    have ht : (e.kind - 1).tmod 6 = e.kind - 1 := by rw [Int.tmod_eq_emod_of_nonneg (by omega)]; omega
    unfold spotV; rw [ht, if_neg (by omega)]
  have h1 : kind1 e.kind = e.kind := by unfold kind1; rw [hw, hs]; omega
  have h4 : e.kind = 4 → okV e.v.k := fun hk4 => by
    have := h.2 hk4
    unfold mayM at this
    simp only [Bool.or_eq_true, beq_iff_eq] at this
    unfold okV; omega
  have h2 : vk1 e.kind e.v.k = e.v.k := by unfold vk1; rw [if_neg (fun hh => hh.2 (h4 hh.1))]
  have h3 : vk2 e.kind e.v.k = e.v.k := by
    unfold vk2
    split
    · rename_i hh; have := h4 hh.1; unfold okV at this; omega
    · rfl
  unfold evM
  rw [h1, h2, h3]
theorem eventsM_id {l : List EventM} (h : ∀ e ∈ l, okEv e) (hl : l.length ≤ 400) : eventsM l = l := by
  unfold eventsM
  rw [List.take_of_length_le hl]
  conv => rhs; rw [← List.map_id l]
  exact List.map_congr_left fun e he => evM_id (h e he)
theorem eventsM_ok (l : List EventM) : ∀ e ∈ eventsM l, okEv e := by
  intro e he
  unfold eventsM at he
  rw [List.mem_map] at he
  obtain ⟨x, _, rfl⟩ := he
  exact evM_ok x
theorem eventsM_len (l : List EventM) : (eventsM l).length ≤ 400 := by unfold eventsM; rw [List.length_map, List.length_take]; omega
def okE (e : EventM) : Prop := okI e.kind ∧ okI e.n ∧ (∀ x ∈ e.v.l, okI x) ∧ okI e.v.k ∧ okI e.v.n ∧ e.v.s.size ≤ 140737488351232 ∧ e.v.l.length * 8 ≤ 140737488351232
def CeEvO (base : Nat) (w : World) (cs : List Value) (e : EventM) : Prop := ∃ lv, cs = [.int .i64 e.kind, .int .i64 e.n, .int .i64 e.v.k, .int .i64 e.v.n, .string e.v.s, lv] ∧ OwnI w base lv e.v.l ∧ okE e
theorem CeEvO.kp {base : Nat} : ElKp (CeEvO base) := fun _ _ _ _ hk ⟨lv, h, h0, h1⟩ => ⟨lv, h, ownsRow_keep h0 hk, h1⟩
theorem CeEvO.ce {base : Nat} {w : World} {cs : List Value} {e : EventM} (h : CeEvO base w cs e) : CeEvent w cs e := by
  obtain ⟨lv, h, h0, h1, h2, h3, h4, h5, h6, h7⟩ := h
  exact ⟨lv, h, h1, h2, h0.rd (by omega) h3, h4, h5, h6, h7⟩
def OEvs (w : World) (base : Nat) (v : Value) (l : List EventM) : Prop := OwnL (CeEvO base) 6 27 w base v l
theorem OEvs.kp {w w' : World} {base : Nat} {v : Value} {l : List EventM} (h : OEvs w base v l) (hk : Kp w w') : OEvs w' base v l := OwnL.kp CeEvO.kp h hk
theorem OEvs.rd {w : World} {base : Nat} {v : Value} {l : List EventM} (h : OEvs w base v l) : RdL CeEvent 6 w v l := (OwnL.rd h).mono fun _ _ => CeEvO.ce
theorem OEvs.snoc {w w' : World} {base B : Nat} {v v' lv : Value} {l : List EventM} {e : EventM} {n : Nat} {xs : List Value} (hx : Chunk (CeEvO base) 6 w xs l) (hown : w.ownsRow base 27 6 v l.length xs) (hg : w.grownBy w' v.ownBlock) (hn : n = l.length + 1) (h : w'.ownsRow base 27 6 v' n (xs ++ [.int .i64 e.kind, .int .i64 e.n, .int .i64 e.v.k, .int .i64 e.v.n, .string e.v.s, lv])) (ho : OwnI w B lv e.v.l) (hB : base ≤ B) (hok : okE e) : OEvs w' base v' (l ++ [e]) := by
  have ht := Touch.of_grown hown hg
  have hc : ∀ cs a, CeEvO base w cs a → CeEvO base w' cs a := fun cs a ⟨la, g1, g2, g3⟩ => ⟨la, g1, ownsRow_touch (by decide) g2 ht, g3⟩
  exact OwnL.snoc hn hx hc (hc _ e ⟨lv, rfl, own_base hB ho, hok⟩) rfl h
theorem EvBox.free {w : World} {b : Nat} {e : EventM} {lv : Value} (h : EvBox w b e lv) (j : Nat) : w.frozen? ⟨b, j, none⟩ = false := blk_free h
theorem EvBox.setK {w : World} {b : Nat} {e : EventM} {lv : Value} (h : EvBox w b e lv) (x : Int) : EvBox (w.setCell ⟨b, 2, none⟩ (.int .i64 x)) b ⟨e.kind, e.n, ⟨x, e.v.n, e.v.s, e.v.l⟩⟩ lv := blk_set h _
theorem EvBox.setKind {w : World} {b : Nat} {e : EventM} {lv : Value} (h : EvBox w b e lv) (x : Int) : EvBox (w.setCell ⟨b, 0, none⟩ (.int .i64 x)) b ⟨x, e.n, e.v⟩ lv := blk_set h _
theorem vk1_ok {k v : Int} (h : okI v) : okI (vk1 k v) := by
  unfold vk1
  split
  · exact ok_small (by omega) (by omega)
  · exact h
/-- What stands in a round while the box is written. -/
def EvMid (wr : World) (b : Nat) (e : EventM) (lv : Value) (W : World) : Prop := EvBox W b e lv ∧ OwnI W (wr.heap.size + 1) lv e.v.l ∧ Kp wr W
theorem EvMid.setK {wr W : World} {e : EventM} {lv : Value} (h : EvMid wr wr.heap.size e lv W) (x : Int) : EvMid wr wr.heap.size ⟨e.kind, e.n, ⟨x, e.v.n, e.v.s, e.v.l⟩⟩ lv (W.setCell ⟨wr.heap.size, 2, none⟩ (.int .i64 x)) := ⟨h.1.setK x, ownsRow_setCell_below h.2.1 (by simp) _, h.2.2.setCell (Nat.le_refl _) _⟩
theorem EvMid.setKind {wr W : World} {e : EventM} {lv : Value} (h : EvMid wr wr.heap.size e lv W) (x : Int) : EvMid wr wr.heap.size ⟨x, e.n, e.v⟩ lv (W.setCell ⟨wr.heap.size, 0, none⟩ (.int .i64 x)) := ⟨h.1.setKind x, ownsRow_setCell_below h.2.1 (by simp) _, h.2.2.setCell (Nat.le_refl _) _⟩
set_option maxRecDepth 20000 in
set_option maxHeartbeats 8000000 in
theorem events_any (v : Value) (l : List EventM) (w : World) (h : RdL CeEvent 6 w v l) : Calls Try.prog 9 #[v] w fun e w' => (∃ v', e = .returned v' ∧ OEvs w' w.heap.size v' (eventsM l)) ∧ Kp w w' := by
  have HL := hid h
  obtain ⟨A, c, rfl, hc⟩ := h.form
  clear h
  go_enter Try.func9, Try.ntmps9
  go_wp2
  go_loopw [3, 4] (fun o i wr => ∃ k : Nat, k ≤ l.length ∧ k < 400 ∧ i = .int .i64 k ∧ OEvs wr w.heap.size o ((l.take k).map evM) ∧ Kp w wr) (fun _ i _ => l.length - (intOf i).toNat)
  case atStart => exact ⟨0, by omega, by omega, rfl, OwnL.nil _ _ _ _ _, Kp.refl _⟩
  case round =>
    obtain ⟨k, hk, hk4, rfl, ho, hkp⟩ := hrel
    have HO := hid ho; have HKP := hid hkp
    have hwr := hkp.le
    by_cases hlt : k < l.length
    · have i1 : (k : Int) < (l.length : Int) := by omega
      obtain ⟨e, he⟩ : ∃ e, l[k]? = some e := ⟨_, List.getElem?_eq_getElem hlt⟩
      obtain ⟨b, off, rfl, hb, lv, q0, q1, q2, q3, q4, q5, o0, o1, o2, o3, o4, o5, o6⟩ := at_event (HL.out.kp CeEvent.kp hkp) he
      have HE := hid he
      obtain ⟨A2, c2, rfl⟩ := o2.form
      have HOV := hid o2
      have HOK := hid (show okE e from ⟨o0, o1, o2.2.1, o3, o4, o5, o6⟩)
      have hlen : ((l.take k).map evM).length = k := by rw [List.length_map, List.length_take]; omega
      have HLEN := hid hlen
      clear he o0 o1 o2 o3 o4 o5 o6 ho hkp hlen
      go_wp2_with fail
      have hka := hid ((Kp.refl wr).alloc (.cells #[.int .i64 e.kind, .int .i64 e.n, .int .i64 e.v.k, .int .i64 e.v.n, .string e.v.s, .slice A2 e.v.l.length c2] 27))
      have HBX := hid (show EvBox (wr.alloc (.cells #[.int .i64 e.kind, .int .i64 e.n, .int .i64 e.v.k, .int .i64 e.v.n, .string e.v.s, .slice A2 e.v.l.length c2] 27)) wr.heap.size e (.slice A2 e.v.l.length c2) from blk_new _ _)
      have hzz := hid (show (wr.alloc (.cells #[.int .i64 e.kind, .int .i64 e.n, .int .i64 e.v.k, .int .i64 e.v.n, .string e.v.s, .slice A2 e.v.l.length c2] 27)).heap.size = wr.heap.size + 1 by simp)
      have hc := own_any _ e.v (wr.alloc (.cells #[.int .i64 e.kind, .int .i64 e.n, .int .i64 e.v.k, .int .i64 e.v.n, .string e.v.s, .slice A2 e.v.l.length c2] 27)) ⟨_, rfl, HOV.out.kp hka.out, HOK.out.2.2.2.1, HOK.out.2.2.2.2.1, HOK.out.2.2.2.2.2.1, HOK.out.2.2.2.2.2.2⟩
      refine hc.mono ?_; clear hc
      rintro e' w2 ⟨⟨v2, rfl, lv2, rfl, ho2, _⟩, hk2⟩
      rw [hzz.out] at ho2
      obtain ⟨A3, c3, rfl⟩ := own_form ho2
      have hb2 := HBX.out.kp hk2
      obtain ⟨y0, y1, y2, y3, y4, y5⟩ := hb2.cells
      have yf := hb2.free
      have HM : Hid (EvMid wr wr.heap.size e (.slice A3 e.v.l.length c3) ((((w2.setCell ⟨wr.heap.size, 2, none⟩ (.int .i64 e.v.k)).setCell ⟨wr.heap.size, 3, none⟩ (.int .i64 e.v.n)).setCell ⟨wr.heap.size, 4, none⟩ (.string e.v.s)).setCell ⟨wr.heap.size, 5, none⟩ (.slice A3 e.v.l.length c3))) := hid
        ⟨blk_set (blk_set (blk_set (blk_set hb2 _) _) _) _, ownsRow_setCell_below (ownsRow_setCell_below (ownsRow_setCell_below (ownsRow_setCell_below ho2 (by simp) _) (by simp) _) (by simp) _) (by simp) _, ((((hka.out.trans hk2).setCell (Nat.le_refl _) _).setCell (Nat.le_refl _) _).setCell (Nat.le_refl _) _).setCell (Nat.le_refl _) _⟩
      clear q0 q1 q2 q3 q4 q5 ho2 hk2 hb2
      have hca : (e.kind == 4) = false ∨ ((e.kind == 4) = true ∧ (e.v.k != 1) = false) ∨ ((e.kind == 4) = true ∧ (e.v.k != 1) = true ∧ (e.v.k != 3) = false) ∨ ((e.kind == 4) = true ∧ (e.v.k != 1) = true ∧ (e.v.k != 3) = true ∧ (e.v.k != 5) = false) ∨ ((e.kind == 4) = true ∧ (e.v.k != 1) = true ∧ (e.v.k != 3) = true ∧ (e.v.k != 5) = true) := by
        cases h1 : (e.kind == 4) <;> cases h2 : (e.v.k != 1) <;> cases h3 : (e.v.k != 3) <;> cases h4 : (e.v.k != 5) <;> simp
      have HOKV : Hid (okI (vk1 e.kind e.v.k)) := hid (vk1_ok HOK.out.2.2.2.1)
      rcases hca with a1 | ⟨a1, a2⟩ | ⟨a1, a2, a3⟩ | ⟨a1, a2, a3, a4⟩ | ⟨a1, a2, a3, a4⟩
      · have hx : vk1 e.kind e.v.k = e.v.k := by
          have hn : ¬ (e.kind = 4 ∧ ¬ okV e.v.k) := by
            simp at a1; exact fun h => absurd h.1 a1
          unfold vk1; rw [if_neg (fun h => absurd h hn)]
        have HM2 := hid (show EvMid wr wr.heap.size ⟨e.kind, e.n, ⟨vk1 e.kind e.v.k, e.v.n, e.v.s, e.v.l⟩⟩ (.slice A3 e.v.l.length c3) ((((w2.setCell ⟨wr.heap.size, 2, none⟩ (.int .i64 e.v.k)).setCell ⟨wr.heap.size, 3, none⟩ (.int .i64 e.v.n)).setCell ⟨wr.heap.size, 4, none⟩ (.string e.v.s)).setCell ⟨wr.heap.size, 5, none⟩ (.slice A3 e.v.l.length c3)) from by rw [hx]; exact HM.out)
        clear hx
        go_wp2_with fail
        clear y0 y1 y2 y3 y4 y5 yf HM
        obtain ⟨v1, hv1⟩ : ∃ v1, vk1 e.kind e.v.k = v1 := ⟨_, rfl⟩
        rw [hv1] at HM2 HOKV
        have HV1 := hid hv1
        clear hv1
        generalize ((((w2.setCell ⟨wr.heap.size, 2, none⟩ (.int .i64 e.v.k)).setCell ⟨wr.heap.size, 3, none⟩ (.int .i64 e.v.n)).setCell ⟨wr.heap.size, 4, none⟩ (.string e.v.s)).setCell ⟨wr.heap.size, 5, none⟩ (.slice A3 e.v.l.length c3)) = W at HM2 ⊢
        have hc := spot_any (wrap64 (e.kind - 1)) 6 W (by omega) (by omega)
        have sb := spotV_bd (wrap64 (e.kind - 1)) 6 (by omega)
        obtain ⟨s, hs⟩ : ∃ s, spotV (wrap64 (e.kind - 1)) 6 = s := ⟨_, rfl⟩
        rw [hs] at hc sb
        have HS := hid (show kind1 e.kind = 1 + s by unfold kind1; rw [hs])
        clear hs
        refine hc.mono ?_; clear hc
        rintro e' w3 ⟨rfl, rfl⟩
        obtain ⟨sb0, sb1⟩ := sb
        obtain ⟨z0, z1, z2, z3, z4, z5⟩ := HM2.out.1.cells
        have zf := HM2.out.1.free
        dsimp only at z0 z1 z2 z3 z4 z5
        have HM3 := hid (HM2.out.setKind (1 + s))
        have hcb : ((1 + s == 4) = false ∨ ((1 + s == 4) = true ∧ (v1 != 3) = false)) ∨ (((1 + s == 4) = true ∧ (v1 != 3) = true ∧ (v1 != 5) = false) ∨ ((1 + s == 4) = true ∧ (v1 != 3) = true ∧ (v1 != 5) = true)) := by
          cases h1 : (1 + s == 4) <;> cases h2 : (v1 != 3) <;> cases h3 : (v1 != 5) <;> simp
        rcases hcb with (u1 | ⟨u1, u2⟩) | (⟨u1, u2, u3⟩ | ⟨u1, u2, u3⟩)
        · have hev : evM e = ⟨1 + s, e.n, ⟨v1, e.v.n, e.v.s, e.v.l⟩⟩ := by
            unfold evM
            rw [HS.out, HV1.out]
            have : vk2 (1 + s) v1 = v1 := by unfold vk2; rw [if_neg (fun h => by simp at u1; omega)]
            rw [this]
          have HEV := hid hev
          have HM4 : Hid (EvMid wr wr.heap.size ⟨1 + s, e.n, ⟨v1, e.v.n, e.v.s, e.v.l⟩⟩ (.slice A3 e.v.l.length c3) (W.setCell ⟨wr.heap.size, 0, none⟩ (.int .i64 (1 + s)))) := hid (HM3.out)
          obtain ⟨xs, hown, hch⟩ := HO.out.kp HM4.out.2.2
          rw [HLEN.out] at hown
          have HCH := hid hch; have HOWN := hid hown
          have B1 := hid (show k + 1 ≤ maxLen by unfold maxLen; omega)
          have B2 := hid (show (k + 1) * 72 ≤ 140737488355328 by omega)
          have B3 := hid (Nat.le_trans hwr HM4.out.2.2.le)
          have HOE := hid (show okE ⟨1 + s, e.n, ⟨v1, e.v.n, e.v.s, e.v.l⟩⟩ from ⟨ok_small (by show -1000 ≤ 1 + s; omega) (by show 1 + s ≤ _; omega), HOK.out.2.1, HOK.out.2.2.1, by show okI v1; exact HOKV.out, HOK.out.2.2.2.2⟩)
          obtain ⟨Ao, co, rfl⟩ := own_form hown
          clear hown hch hev HM3
          by_cases h4 : k + 1 = 400
          · have t4 : ((k : Int) + 1 == 400) = true := by simp; omega
            have H4 := hid h4
            clear h4
            go_wp2_with (at_builtin; go_must (refine app_lit_at W.heap.size (by simp [World.setCell]) elEvent rfl (.tmp 66) (.tmp 68) rfl HOWN.out rfl _ _ 1 1 rfl rfl (by intro u hu; simp at hu; rcases hu with rfl | rfl | rfl | rfl | rfl | rfl <;> rfl) B1.out B2.out B3.out ?_); intro v5 w5 hown5 hg5 hm5 hb5; have HN5 : Hid (OEvs w5 w.heap.size v5 ((l.take (k + 1)).map evM)) := hid (by rw [← take_snoc HE.out, List.map_append]; exact OEvs.snoc (e := evM e) (lv := .slice A3 e.v.l.length c3) HCH.out (by rw [HLEN.out]; exact HOWN.out) hg5 (by rw [HLEN.out]) (by rw [HEV.out]; exact hown5) (by rw [HEV.out]; exact HM4.out.2.1) (Nat.le_trans hwr (Nat.le_succ _)) (by rw [HEV.out]; exact HOE.out)); obtain ⟨A5, c5, rfl⟩ := own_form hown5; have HK5 := hid (Below.trans (HKP.out.trans HM4.out.2.2) hb5); clear hown5 hg5 hm5 hb5)
            go_ret
            exact ⟨⟨_, rfl, by unfold eventsM; rw [← H4.out]; exact HN5.out⟩, HK5.out⟩
          · have t4 : ((k : Int) + 1 == 400) = false := by simp; omega
            have H4 := hid h4
            clear h4
            go_wp2_with (at_builtin; go_must (refine app_lit_at W.heap.size (by simp [World.setCell]) elEvent rfl (.tmp 66) (.tmp 68) rfl HOWN.out rfl _ _ 1 1 rfl rfl (by intro u hu; simp at hu; rcases hu with rfl | rfl | rfl | rfl | rfl | rfl <;> rfl) B1.out B2.out B3.out ?_); intro v5 w5 hown5 hg5 hm5 hb5; have HN5 : Hid (OEvs w5 w.heap.size v5 ((l.take (k + 1)).map evM)) := hid (by rw [← take_snoc HE.out, List.map_append]; exact OEvs.snoc (e := evM e) (lv := .slice A3 e.v.l.length c3) HCH.out (by rw [HLEN.out]; exact HOWN.out) hg5 (by rw [HLEN.out]) (by rw [HEV.out]; exact hown5) (by rw [HEV.out]; exact HM4.out.2.1) (Nat.le_trans hwr (Nat.le_succ _)) (by rw [HEV.out]; exact HOE.out)); obtain ⟨A5, c5, rfl⟩ := own_form hown5; have HK5 := hid (Below.trans (HKP.out.trans HM4.out.2.2) hb5); clear hown5 hg5 hm5 hb5)
            go_roundw
            case rel => exact ⟨k + 1, hlt, by have := H4.out; omega, by simp, HN5.out, HK5.out⟩
            case measure => simp [intOf]; omega
        · have hev : evM e = ⟨1 + s, e.n, ⟨v1, e.v.n, e.v.s, e.v.l⟩⟩ := by
            unfold evM
            rw [HS.out, HV1.out]
            have : vk2 (1 + s) v1 = v1 := by unfold vk2; rw [if_neg (fun h => h.2 (.inl (by simpa using u2)))]
            rw [this]
          have HEV := hid hev
          have HM4 : Hid (EvMid wr wr.heap.size ⟨1 + s, e.n, ⟨v1, e.v.n, e.v.s, e.v.l⟩⟩ (.slice A3 e.v.l.length c3) (W.setCell ⟨wr.heap.size, 0, none⟩ (.int .i64 (1 + s)))) := hid (HM3.out)
          obtain ⟨xs, hown, hch⟩ := HO.out.kp HM4.out.2.2
          rw [HLEN.out] at hown
          have HCH := hid hch; have HOWN := hid hown
          have B1 := hid (show k + 1 ≤ maxLen by unfold maxLen; omega)
          have B2 := hid (show (k + 1) * 72 ≤ 140737488355328 by omega)
          have B3 := hid (Nat.le_trans hwr HM4.out.2.2.le)
          have HOE := hid (show okE ⟨1 + s, e.n, ⟨v1, e.v.n, e.v.s, e.v.l⟩⟩ from ⟨ok_small (by show -1000 ≤ 1 + s; omega) (by show 1 + s ≤ _; omega), HOK.out.2.1, HOK.out.2.2.1, by show okI v1; exact HOKV.out, HOK.out.2.2.2.2⟩)
          obtain ⟨Ao, co, rfl⟩ := own_form hown
          clear hown hch hev HM3
          by_cases h4 : k + 1 = 400
          · have t4 : ((k : Int) + 1 == 400) = true := by simp; omega
            have H4 := hid h4
            clear h4
            go_wp2_with (at_builtin; go_must (refine app_lit_at W.heap.size (by simp [World.setCell]) elEvent rfl (.tmp 66) (.tmp 68) rfl HOWN.out rfl _ _ 1 1 rfl rfl (by intro u hu; simp at hu; rcases hu with rfl | rfl | rfl | rfl | rfl | rfl <;> rfl) B1.out B2.out B3.out ?_); intro v5 w5 hown5 hg5 hm5 hb5; have HN5 : Hid (OEvs w5 w.heap.size v5 ((l.take (k + 1)).map evM)) := hid (by rw [← take_snoc HE.out, List.map_append]; exact OEvs.snoc (e := evM e) (lv := .slice A3 e.v.l.length c3) HCH.out (by rw [HLEN.out]; exact HOWN.out) hg5 (by rw [HLEN.out]) (by rw [HEV.out]; exact hown5) (by rw [HEV.out]; exact HM4.out.2.1) (Nat.le_trans hwr (Nat.le_succ _)) (by rw [HEV.out]; exact HOE.out)); obtain ⟨A5, c5, rfl⟩ := own_form hown5; have HK5 := hid (Below.trans (HKP.out.trans HM4.out.2.2) hb5); clear hown5 hg5 hm5 hb5)
            go_ret
            exact ⟨⟨_, rfl, by unfold eventsM; rw [← H4.out]; exact HN5.out⟩, HK5.out⟩
          · have t4 : ((k : Int) + 1 == 400) = false := by simp; omega
            have H4 := hid h4
            clear h4
            go_wp2_with (at_builtin; go_must (refine app_lit_at W.heap.size (by simp [World.setCell]) elEvent rfl (.tmp 66) (.tmp 68) rfl HOWN.out rfl _ _ 1 1 rfl rfl (by intro u hu; simp at hu; rcases hu with rfl | rfl | rfl | rfl | rfl | rfl <;> rfl) B1.out B2.out B3.out ?_); intro v5 w5 hown5 hg5 hm5 hb5; have HN5 : Hid (OEvs w5 w.heap.size v5 ((l.take (k + 1)).map evM)) := hid (by rw [← take_snoc HE.out, List.map_append]; exact OEvs.snoc (e := evM e) (lv := .slice A3 e.v.l.length c3) HCH.out (by rw [HLEN.out]; exact HOWN.out) hg5 (by rw [HLEN.out]) (by rw [HEV.out]; exact hown5) (by rw [HEV.out]; exact HM4.out.2.1) (Nat.le_trans hwr (Nat.le_succ _)) (by rw [HEV.out]; exact HOE.out)); obtain ⟨A5, c5, rfl⟩ := own_form hown5; have HK5 := hid (Below.trans (HKP.out.trans HM4.out.2.2) hb5); clear hown5 hg5 hm5 hb5)
            go_roundw
            case rel => exact ⟨k + 1, hlt, by have := H4.out; omega, by simp, HN5.out, HK5.out⟩
            case measure => simp [intOf]; omega
        · have hev : evM e = ⟨1 + s, e.n, ⟨v1, e.v.n, e.v.s, e.v.l⟩⟩ := by
            unfold evM
            rw [HS.out, HV1.out]
            have : vk2 (1 + s) v1 = v1 := by unfold vk2; rw [if_neg (fun h => h.2 (.inr (by simpa using u3)))]
            rw [this]
          have HEV := hid hev
          have HM4 : Hid (EvMid wr wr.heap.size ⟨1 + s, e.n, ⟨v1, e.v.n, e.v.s, e.v.l⟩⟩ (.slice A3 e.v.l.length c3) (W.setCell ⟨wr.heap.size, 0, none⟩ (.int .i64 (1 + s)))) := hid (HM3.out)
          obtain ⟨xs, hown, hch⟩ := HO.out.kp HM4.out.2.2
          rw [HLEN.out] at hown
          have HCH := hid hch; have HOWN := hid hown
          have B1 := hid (show k + 1 ≤ maxLen by unfold maxLen; omega)
          have B2 := hid (show (k + 1) * 72 ≤ 140737488355328 by omega)
          have B3 := hid (Nat.le_trans hwr HM4.out.2.2.le)
          have HOE := hid (show okE ⟨1 + s, e.n, ⟨v1, e.v.n, e.v.s, e.v.l⟩⟩ from ⟨ok_small (by show -1000 ≤ 1 + s; omega) (by show 1 + s ≤ _; omega), HOK.out.2.1, HOK.out.2.2.1, by show okI v1; exact HOKV.out, HOK.out.2.2.2.2⟩)
          obtain ⟨Ao, co, rfl⟩ := own_form hown
          clear hown hch hev HM3
          by_cases h4 : k + 1 = 400
          · have t4 : ((k : Int) + 1 == 400) = true := by simp; omega
            have H4 := hid h4
            clear h4
            go_wp2_with (at_builtin; go_must (refine app_lit_at W.heap.size (by simp [World.setCell]) elEvent rfl (.tmp 66) (.tmp 68) rfl HOWN.out rfl _ _ 1 1 rfl rfl (by intro u hu; simp at hu; rcases hu with rfl | rfl | rfl | rfl | rfl | rfl <;> rfl) B1.out B2.out B3.out ?_); intro v5 w5 hown5 hg5 hm5 hb5; have HN5 : Hid (OEvs w5 w.heap.size v5 ((l.take (k + 1)).map evM)) := hid (by rw [← take_snoc HE.out, List.map_append]; exact OEvs.snoc (e := evM e) (lv := .slice A3 e.v.l.length c3) HCH.out (by rw [HLEN.out]; exact HOWN.out) hg5 (by rw [HLEN.out]) (by rw [HEV.out]; exact hown5) (by rw [HEV.out]; exact HM4.out.2.1) (Nat.le_trans hwr (Nat.le_succ _)) (by rw [HEV.out]; exact HOE.out)); obtain ⟨A5, c5, rfl⟩ := own_form hown5; have HK5 := hid (Below.trans (HKP.out.trans HM4.out.2.2) hb5); clear hown5 hg5 hm5 hb5)
            go_ret
            exact ⟨⟨_, rfl, by unfold eventsM; rw [← H4.out]; exact HN5.out⟩, HK5.out⟩
          · have t4 : ((k : Int) + 1 == 400) = false := by simp; omega
            have H4 := hid h4
            clear h4
            go_wp2_with (at_builtin; go_must (refine app_lit_at W.heap.size (by simp [World.setCell]) elEvent rfl (.tmp 66) (.tmp 68) rfl HOWN.out rfl _ _ 1 1 rfl rfl (by intro u hu; simp at hu; rcases hu with rfl | rfl | rfl | rfl | rfl | rfl <;> rfl) B1.out B2.out B3.out ?_); intro v5 w5 hown5 hg5 hm5 hb5; have HN5 : Hid (OEvs w5 w.heap.size v5 ((l.take (k + 1)).map evM)) := hid (by rw [← take_snoc HE.out, List.map_append]; exact OEvs.snoc (e := evM e) (lv := .slice A3 e.v.l.length c3) HCH.out (by rw [HLEN.out]; exact HOWN.out) hg5 (by rw [HLEN.out]) (by rw [HEV.out]; exact hown5) (by rw [HEV.out]; exact HM4.out.2.1) (Nat.le_trans hwr (Nat.le_succ _)) (by rw [HEV.out]; exact HOE.out)); obtain ⟨A5, c5, rfl⟩ := own_form hown5; have HK5 := hid (Below.trans (HKP.out.trans HM4.out.2.2) hb5); clear hown5 hg5 hm5 hb5)
            go_roundw
            case rel => exact ⟨k + 1, hlt, by have := H4.out; omega, by simp, HN5.out, HK5.out⟩
            case measure => simp [intOf]; omega
        · have hev : evM e = ⟨1 + s, e.n, ⟨1, e.v.n, e.v.s, e.v.l⟩⟩ := by
            unfold evM
            rw [HS.out, HV1.out]
            have : vk2 (1 + s) v1 = 1 := by unfold vk2; rw [if_pos ⟨by simpa using u1, by simp at u2 u3; omega⟩]
            rw [this]
          have HEV := hid hev
          have HM4 : Hid (EvMid wr wr.heap.size ⟨1 + s, e.n, ⟨1, e.v.n, e.v.s, e.v.l⟩⟩ (.slice A3 e.v.l.length c3) ((W.setCell ⟨wr.heap.size, 0, none⟩ (.int .i64 (1 + s))).setCell ⟨wr.heap.size, 2, none⟩ (.int .i64 1))) := hid (HM3.out.setK 1)
          obtain ⟨xs, hown, hch⟩ := HO.out.kp HM4.out.2.2
          rw [HLEN.out] at hown
          have HCH := hid hch; have HOWN := hid hown
          have B1 := hid (show k + 1 ≤ maxLen by unfold maxLen; omega)
          have B2 := hid (show (k + 1) * 72 ≤ 140737488355328 by omega)
          have B3 := hid (Nat.le_trans hwr HM4.out.2.2.le)
          have HOE := hid (show okE ⟨1 + s, e.n, ⟨1, e.v.n, e.v.s, e.v.l⟩⟩ from ⟨ok_small (by show -1000 ≤ 1 + s; omega) (by show 1 + s ≤ _; omega), HOK.out.2.1, HOK.out.2.2.1, by show okI 1; exact ok_small (by omega) (by omega), HOK.out.2.2.2.2⟩)
          obtain ⟨Ao, co, rfl⟩ := own_form hown
          clear hown hch hev HM3
          by_cases h4 : k + 1 = 400
          · have t4 : ((k : Int) + 1 == 400) = true := by simp; omega
            have H4 := hid h4
            clear h4
            go_wp2_with (at_builtin; go_must (refine app_lit_at W.heap.size (by simp [World.setCell]) elEvent rfl (.tmp 66) (.tmp 68) rfl HOWN.out rfl _ _ 1 1 rfl rfl (by intro u hu; simp at hu; rcases hu with rfl | rfl | rfl | rfl | rfl | rfl <;> rfl) B1.out B2.out B3.out ?_); intro v5 w5 hown5 hg5 hm5 hb5; have HN5 : Hid (OEvs w5 w.heap.size v5 ((l.take (k + 1)).map evM)) := hid (by rw [← take_snoc HE.out, List.map_append]; exact OEvs.snoc (e := evM e) (lv := .slice A3 e.v.l.length c3) HCH.out (by rw [HLEN.out]; exact HOWN.out) hg5 (by rw [HLEN.out]) (by rw [HEV.out]; exact hown5) (by rw [HEV.out]; exact HM4.out.2.1) (Nat.le_trans hwr (Nat.le_succ _)) (by rw [HEV.out]; exact HOE.out)); obtain ⟨A5, c5, rfl⟩ := own_form hown5; have HK5 := hid (Below.trans (HKP.out.trans HM4.out.2.2) hb5); clear hown5 hg5 hm5 hb5)
            go_ret
            exact ⟨⟨_, rfl, by unfold eventsM; rw [← H4.out]; exact HN5.out⟩, HK5.out⟩
          · have t4 : ((k : Int) + 1 == 400) = false := by simp; omega
            have H4 := hid h4
            clear h4
            go_wp2_with (at_builtin; go_must (refine app_lit_at W.heap.size (by simp [World.setCell]) elEvent rfl (.tmp 66) (.tmp 68) rfl HOWN.out rfl _ _ 1 1 rfl rfl (by intro u hu; simp at hu; rcases hu with rfl | rfl | rfl | rfl | rfl | rfl <;> rfl) B1.out B2.out B3.out ?_); intro v5 w5 hown5 hg5 hm5 hb5; have HN5 : Hid (OEvs w5 w.heap.size v5 ((l.take (k + 1)).map evM)) := hid (by rw [← take_snoc HE.out, List.map_append]; exact OEvs.snoc (e := evM e) (lv := .slice A3 e.v.l.length c3) HCH.out (by rw [HLEN.out]; exact HOWN.out) hg5 (by rw [HLEN.out]) (by rw [HEV.out]; exact hown5) (by rw [HEV.out]; exact HM4.out.2.1) (Nat.le_trans hwr (Nat.le_succ _)) (by rw [HEV.out]; exact HOE.out)); obtain ⟨A5, c5, rfl⟩ := own_form hown5; have HK5 := hid (Below.trans (HKP.out.trans HM4.out.2.2) hb5); clear hown5 hg5 hm5 hb5)
            go_roundw
            case rel => exact ⟨k + 1, hlt, by have := H4.out; omega, by simp, HN5.out, HK5.out⟩
            case measure => simp [intOf]; omega
      · have hx : vk1 e.kind e.v.k = e.v.k := by
          have hn : ¬ (e.kind = 4 ∧ ¬ okV e.v.k) := by
            simp at a2; exact fun h => h.2 (.inl a2)
          unfold vk1; rw [if_neg (fun h => absurd h hn)]
        have HM2 := hid (show EvMid wr wr.heap.size ⟨e.kind, e.n, ⟨vk1 e.kind e.v.k, e.v.n, e.v.s, e.v.l⟩⟩ (.slice A3 e.v.l.length c3) ((((w2.setCell ⟨wr.heap.size, 2, none⟩ (.int .i64 e.v.k)).setCell ⟨wr.heap.size, 3, none⟩ (.int .i64 e.v.n)).setCell ⟨wr.heap.size, 4, none⟩ (.string e.v.s)).setCell ⟨wr.heap.size, 5, none⟩ (.slice A3 e.v.l.length c3)) from by rw [hx]; exact HM.out)
        clear hx
        go_wp2_with fail
        clear y0 y1 y2 y3 y4 y5 yf HM
        obtain ⟨v1, hv1⟩ : ∃ v1, vk1 e.kind e.v.k = v1 := ⟨_, rfl⟩
        rw [hv1] at HM2 HOKV
        have HV1 := hid hv1
        clear hv1
        generalize ((((w2.setCell ⟨wr.heap.size, 2, none⟩ (.int .i64 e.v.k)).setCell ⟨wr.heap.size, 3, none⟩ (.int .i64 e.v.n)).setCell ⟨wr.heap.size, 4, none⟩ (.string e.v.s)).setCell ⟨wr.heap.size, 5, none⟩ (.slice A3 e.v.l.length c3)) = W at HM2 ⊢
        have hc := spot_any (wrap64 (e.kind - 1)) 6 W (by omega) (by omega)
        have sb := spotV_bd (wrap64 (e.kind - 1)) 6 (by omega)
        obtain ⟨s, hs⟩ : ∃ s, spotV (wrap64 (e.kind - 1)) 6 = s := ⟨_, rfl⟩
        rw [hs] at hc sb
        have HS := hid (show kind1 e.kind = 1 + s by unfold kind1; rw [hs])
        clear hs
        refine hc.mono ?_; clear hc
        rintro e' w3 ⟨rfl, rfl⟩
        obtain ⟨sb0, sb1⟩ := sb
        obtain ⟨z0, z1, z2, z3, z4, z5⟩ := HM2.out.1.cells
        have zf := HM2.out.1.free
        dsimp only at z0 z1 z2 z3 z4 z5
        have HM3 := hid (HM2.out.setKind (1 + s))
        have hcb : ((1 + s == 4) = false ∨ ((1 + s == 4) = true ∧ (v1 != 3) = false)) ∨ (((1 + s == 4) = true ∧ (v1 != 3) = true ∧ (v1 != 5) = false) ∨ ((1 + s == 4) = true ∧ (v1 != 3) = true ∧ (v1 != 5) = true)) := by
          cases h1 : (1 + s == 4) <;> cases h2 : (v1 != 3) <;> cases h3 : (v1 != 5) <;> simp
        rcases hcb with (u1 | ⟨u1, u2⟩) | (⟨u1, u2, u3⟩ | ⟨u1, u2, u3⟩)
        · have hev : evM e = ⟨1 + s, e.n, ⟨v1, e.v.n, e.v.s, e.v.l⟩⟩ := by
            unfold evM
            rw [HS.out, HV1.out]
            have : vk2 (1 + s) v1 = v1 := by unfold vk2; rw [if_neg (fun h => by simp at u1; omega)]
            rw [this]
          have HEV := hid hev
          have HM4 : Hid (EvMid wr wr.heap.size ⟨1 + s, e.n, ⟨v1, e.v.n, e.v.s, e.v.l⟩⟩ (.slice A3 e.v.l.length c3) (W.setCell ⟨wr.heap.size, 0, none⟩ (.int .i64 (1 + s)))) := hid (HM3.out)
          obtain ⟨xs, hown, hch⟩ := HO.out.kp HM4.out.2.2
          rw [HLEN.out] at hown
          have HCH := hid hch; have HOWN := hid hown
          have B1 := hid (show k + 1 ≤ maxLen by unfold maxLen; omega)
          have B2 := hid (show (k + 1) * 72 ≤ 140737488355328 by omega)
          have B3 := hid (Nat.le_trans hwr HM4.out.2.2.le)
          have HOE := hid (show okE ⟨1 + s, e.n, ⟨v1, e.v.n, e.v.s, e.v.l⟩⟩ from ⟨ok_small (by show -1000 ≤ 1 + s; omega) (by show 1 + s ≤ _; omega), HOK.out.2.1, HOK.out.2.2.1, by show okI v1; exact HOKV.out, HOK.out.2.2.2.2⟩)
          obtain ⟨Ao, co, rfl⟩ := own_form hown
          clear hown hch hev HM3
          by_cases h4 : k + 1 = 400
          · have t4 : ((k : Int) + 1 == 400) = true := by simp; omega
            have H4 := hid h4
            clear h4
            go_wp2_with (at_builtin; go_must (refine app_lit_at W.heap.size (by simp [World.setCell]) elEvent rfl (.tmp 66) (.tmp 68) rfl HOWN.out rfl _ _ 1 1 rfl rfl (by intro u hu; simp at hu; rcases hu with rfl | rfl | rfl | rfl | rfl | rfl <;> rfl) B1.out B2.out B3.out ?_); intro v5 w5 hown5 hg5 hm5 hb5; have HN5 : Hid (OEvs w5 w.heap.size v5 ((l.take (k + 1)).map evM)) := hid (by rw [← take_snoc HE.out, List.map_append]; exact OEvs.snoc (e := evM e) (lv := .slice A3 e.v.l.length c3) HCH.out (by rw [HLEN.out]; exact HOWN.out) hg5 (by rw [HLEN.out]) (by rw [HEV.out]; exact hown5) (by rw [HEV.out]; exact HM4.out.2.1) (Nat.le_trans hwr (Nat.le_succ _)) (by rw [HEV.out]; exact HOE.out)); obtain ⟨A5, c5, rfl⟩ := own_form hown5; have HK5 := hid (Below.trans (HKP.out.trans HM4.out.2.2) hb5); clear hown5 hg5 hm5 hb5)
            go_ret
            exact ⟨⟨_, rfl, by unfold eventsM; rw [← H4.out]; exact HN5.out⟩, HK5.out⟩
          · have t4 : ((k : Int) + 1 == 400) = false := by simp; omega
            have H4 := hid h4
            clear h4
            go_wp2_with (at_builtin; go_must (refine app_lit_at W.heap.size (by simp [World.setCell]) elEvent rfl (.tmp 66) (.tmp 68) rfl HOWN.out rfl _ _ 1 1 rfl rfl (by intro u hu; simp at hu; rcases hu with rfl | rfl | rfl | rfl | rfl | rfl <;> rfl) B1.out B2.out B3.out ?_); intro v5 w5 hown5 hg5 hm5 hb5; have HN5 : Hid (OEvs w5 w.heap.size v5 ((l.take (k + 1)).map evM)) := hid (by rw [← take_snoc HE.out, List.map_append]; exact OEvs.snoc (e := evM e) (lv := .slice A3 e.v.l.length c3) HCH.out (by rw [HLEN.out]; exact HOWN.out) hg5 (by rw [HLEN.out]) (by rw [HEV.out]; exact hown5) (by rw [HEV.out]; exact HM4.out.2.1) (Nat.le_trans hwr (Nat.le_succ _)) (by rw [HEV.out]; exact HOE.out)); obtain ⟨A5, c5, rfl⟩ := own_form hown5; have HK5 := hid (Below.trans (HKP.out.trans HM4.out.2.2) hb5); clear hown5 hg5 hm5 hb5)
            go_roundw
            case rel => exact ⟨k + 1, hlt, by have := H4.out; omega, by simp, HN5.out, HK5.out⟩
            case measure => simp [intOf]; omega
        · have hev : evM e = ⟨1 + s, e.n, ⟨v1, e.v.n, e.v.s, e.v.l⟩⟩ := by
            unfold evM
            rw [HS.out, HV1.out]
            have : vk2 (1 + s) v1 = v1 := by unfold vk2; rw [if_neg (fun h => h.2 (.inl (by simpa using u2)))]
            rw [this]
          have HEV := hid hev
          have HM4 : Hid (EvMid wr wr.heap.size ⟨1 + s, e.n, ⟨v1, e.v.n, e.v.s, e.v.l⟩⟩ (.slice A3 e.v.l.length c3) (W.setCell ⟨wr.heap.size, 0, none⟩ (.int .i64 (1 + s)))) := hid (HM3.out)
          obtain ⟨xs, hown, hch⟩ := HO.out.kp HM4.out.2.2
          rw [HLEN.out] at hown
          have HCH := hid hch; have HOWN := hid hown
          have B1 := hid (show k + 1 ≤ maxLen by unfold maxLen; omega)
          have B2 := hid (show (k + 1) * 72 ≤ 140737488355328 by omega)
          have B3 := hid (Nat.le_trans hwr HM4.out.2.2.le)
          have HOE := hid (show okE ⟨1 + s, e.n, ⟨v1, e.v.n, e.v.s, e.v.l⟩⟩ from ⟨ok_small (by show -1000 ≤ 1 + s; omega) (by show 1 + s ≤ _; omega), HOK.out.2.1, HOK.out.2.2.1, by show okI v1; exact HOKV.out, HOK.out.2.2.2.2⟩)
          obtain ⟨Ao, co, rfl⟩ := own_form hown
          clear hown hch hev HM3
          by_cases h4 : k + 1 = 400
          · have t4 : ((k : Int) + 1 == 400) = true := by simp; omega
            have H4 := hid h4
            clear h4
            go_wp2_with (at_builtin; go_must (refine app_lit_at W.heap.size (by simp [World.setCell]) elEvent rfl (.tmp 66) (.tmp 68) rfl HOWN.out rfl _ _ 1 1 rfl rfl (by intro u hu; simp at hu; rcases hu with rfl | rfl | rfl | rfl | rfl | rfl <;> rfl) B1.out B2.out B3.out ?_); intro v5 w5 hown5 hg5 hm5 hb5; have HN5 : Hid (OEvs w5 w.heap.size v5 ((l.take (k + 1)).map evM)) := hid (by rw [← take_snoc HE.out, List.map_append]; exact OEvs.snoc (e := evM e) (lv := .slice A3 e.v.l.length c3) HCH.out (by rw [HLEN.out]; exact HOWN.out) hg5 (by rw [HLEN.out]) (by rw [HEV.out]; exact hown5) (by rw [HEV.out]; exact HM4.out.2.1) (Nat.le_trans hwr (Nat.le_succ _)) (by rw [HEV.out]; exact HOE.out)); obtain ⟨A5, c5, rfl⟩ := own_form hown5; have HK5 := hid (Below.trans (HKP.out.trans HM4.out.2.2) hb5); clear hown5 hg5 hm5 hb5)
            go_ret
            exact ⟨⟨_, rfl, by unfold eventsM; rw [← H4.out]; exact HN5.out⟩, HK5.out⟩
          · have t4 : ((k : Int) + 1 == 400) = false := by simp; omega
            have H4 := hid h4
            clear h4
            go_wp2_with (at_builtin; go_must (refine app_lit_at W.heap.size (by simp [World.setCell]) elEvent rfl (.tmp 66) (.tmp 68) rfl HOWN.out rfl _ _ 1 1 rfl rfl (by intro u hu; simp at hu; rcases hu with rfl | rfl | rfl | rfl | rfl | rfl <;> rfl) B1.out B2.out B3.out ?_); intro v5 w5 hown5 hg5 hm5 hb5; have HN5 : Hid (OEvs w5 w.heap.size v5 ((l.take (k + 1)).map evM)) := hid (by rw [← take_snoc HE.out, List.map_append]; exact OEvs.snoc (e := evM e) (lv := .slice A3 e.v.l.length c3) HCH.out (by rw [HLEN.out]; exact HOWN.out) hg5 (by rw [HLEN.out]) (by rw [HEV.out]; exact hown5) (by rw [HEV.out]; exact HM4.out.2.1) (Nat.le_trans hwr (Nat.le_succ _)) (by rw [HEV.out]; exact HOE.out)); obtain ⟨A5, c5, rfl⟩ := own_form hown5; have HK5 := hid (Below.trans (HKP.out.trans HM4.out.2.2) hb5); clear hown5 hg5 hm5 hb5)
            go_roundw
            case rel => exact ⟨k + 1, hlt, by have := H4.out; omega, by simp, HN5.out, HK5.out⟩
            case measure => simp [intOf]; omega
        · have hev : evM e = ⟨1 + s, e.n, ⟨v1, e.v.n, e.v.s, e.v.l⟩⟩ := by
            unfold evM
            rw [HS.out, HV1.out]
            have : vk2 (1 + s) v1 = v1 := by unfold vk2; rw [if_neg (fun h => h.2 (.inr (by simpa using u3)))]
            rw [this]
          have HEV := hid hev
          have HM4 : Hid (EvMid wr wr.heap.size ⟨1 + s, e.n, ⟨v1, e.v.n, e.v.s, e.v.l⟩⟩ (.slice A3 e.v.l.length c3) (W.setCell ⟨wr.heap.size, 0, none⟩ (.int .i64 (1 + s)))) := hid (HM3.out)
          obtain ⟨xs, hown, hch⟩ := HO.out.kp HM4.out.2.2
          rw [HLEN.out] at hown
          have HCH := hid hch; have HOWN := hid hown
          have B1 := hid (show k + 1 ≤ maxLen by unfold maxLen; omega)
          have B2 := hid (show (k + 1) * 72 ≤ 140737488355328 by omega)
          have B3 := hid (Nat.le_trans hwr HM4.out.2.2.le)
          have HOE := hid (show okE ⟨1 + s, e.n, ⟨v1, e.v.n, e.v.s, e.v.l⟩⟩ from ⟨ok_small (by show -1000 ≤ 1 + s; omega) (by show 1 + s ≤ _; omega), HOK.out.2.1, HOK.out.2.2.1, by show okI v1; exact HOKV.out, HOK.out.2.2.2.2⟩)
          obtain ⟨Ao, co, rfl⟩ := own_form hown
          clear hown hch hev HM3
          by_cases h4 : k + 1 = 400
          · have t4 : ((k : Int) + 1 == 400) = true := by simp; omega
            have H4 := hid h4
            clear h4
            go_wp2_with (at_builtin; go_must (refine app_lit_at W.heap.size (by simp [World.setCell]) elEvent rfl (.tmp 66) (.tmp 68) rfl HOWN.out rfl _ _ 1 1 rfl rfl (by intro u hu; simp at hu; rcases hu with rfl | rfl | rfl | rfl | rfl | rfl <;> rfl) B1.out B2.out B3.out ?_); intro v5 w5 hown5 hg5 hm5 hb5; have HN5 : Hid (OEvs w5 w.heap.size v5 ((l.take (k + 1)).map evM)) := hid (by rw [← take_snoc HE.out, List.map_append]; exact OEvs.snoc (e := evM e) (lv := .slice A3 e.v.l.length c3) HCH.out (by rw [HLEN.out]; exact HOWN.out) hg5 (by rw [HLEN.out]) (by rw [HEV.out]; exact hown5) (by rw [HEV.out]; exact HM4.out.2.1) (Nat.le_trans hwr (Nat.le_succ _)) (by rw [HEV.out]; exact HOE.out)); obtain ⟨A5, c5, rfl⟩ := own_form hown5; have HK5 := hid (Below.trans (HKP.out.trans HM4.out.2.2) hb5); clear hown5 hg5 hm5 hb5)
            go_ret
            exact ⟨⟨_, rfl, by unfold eventsM; rw [← H4.out]; exact HN5.out⟩, HK5.out⟩
          · have t4 : ((k : Int) + 1 == 400) = false := by simp; omega
            have H4 := hid h4
            clear h4
            go_wp2_with (at_builtin; go_must (refine app_lit_at W.heap.size (by simp [World.setCell]) elEvent rfl (.tmp 66) (.tmp 68) rfl HOWN.out rfl _ _ 1 1 rfl rfl (by intro u hu; simp at hu; rcases hu with rfl | rfl | rfl | rfl | rfl | rfl <;> rfl) B1.out B2.out B3.out ?_); intro v5 w5 hown5 hg5 hm5 hb5; have HN5 : Hid (OEvs w5 w.heap.size v5 ((l.take (k + 1)).map evM)) := hid (by rw [← take_snoc HE.out, List.map_append]; exact OEvs.snoc (e := evM e) (lv := .slice A3 e.v.l.length c3) HCH.out (by rw [HLEN.out]; exact HOWN.out) hg5 (by rw [HLEN.out]) (by rw [HEV.out]; exact hown5) (by rw [HEV.out]; exact HM4.out.2.1) (Nat.le_trans hwr (Nat.le_succ _)) (by rw [HEV.out]; exact HOE.out)); obtain ⟨A5, c5, rfl⟩ := own_form hown5; have HK5 := hid (Below.trans (HKP.out.trans HM4.out.2.2) hb5); clear hown5 hg5 hm5 hb5)
            go_roundw
            case rel => exact ⟨k + 1, hlt, by have := H4.out; omega, by simp, HN5.out, HK5.out⟩
            case measure => simp [intOf]; omega
        · have hev : evM e = ⟨1 + s, e.n, ⟨1, e.v.n, e.v.s, e.v.l⟩⟩ := by
            unfold evM
            rw [HS.out, HV1.out]
            have : vk2 (1 + s) v1 = 1 := by unfold vk2; rw [if_pos ⟨by simpa using u1, by simp at u2 u3; omega⟩]
            rw [this]
          have HEV := hid hev
          have HM4 : Hid (EvMid wr wr.heap.size ⟨1 + s, e.n, ⟨1, e.v.n, e.v.s, e.v.l⟩⟩ (.slice A3 e.v.l.length c3) ((W.setCell ⟨wr.heap.size, 0, none⟩ (.int .i64 (1 + s))).setCell ⟨wr.heap.size, 2, none⟩ (.int .i64 1))) := hid (HM3.out.setK 1)
          obtain ⟨xs, hown, hch⟩ := HO.out.kp HM4.out.2.2
          rw [HLEN.out] at hown
          have HCH := hid hch; have HOWN := hid hown
          have B1 := hid (show k + 1 ≤ maxLen by unfold maxLen; omega)
          have B2 := hid (show (k + 1) * 72 ≤ 140737488355328 by omega)
          have B3 := hid (Nat.le_trans hwr HM4.out.2.2.le)
          have HOE := hid (show okE ⟨1 + s, e.n, ⟨1, e.v.n, e.v.s, e.v.l⟩⟩ from ⟨ok_small (by show -1000 ≤ 1 + s; omega) (by show 1 + s ≤ _; omega), HOK.out.2.1, HOK.out.2.2.1, by show okI 1; exact ok_small (by omega) (by omega), HOK.out.2.2.2.2⟩)
          obtain ⟨Ao, co, rfl⟩ := own_form hown
          clear hown hch hev HM3
          by_cases h4 : k + 1 = 400
          · have t4 : ((k : Int) + 1 == 400) = true := by simp; omega
            have H4 := hid h4
            clear h4
            go_wp2_with (at_builtin; go_must (refine app_lit_at W.heap.size (by simp [World.setCell]) elEvent rfl (.tmp 66) (.tmp 68) rfl HOWN.out rfl _ _ 1 1 rfl rfl (by intro u hu; simp at hu; rcases hu with rfl | rfl | rfl | rfl | rfl | rfl <;> rfl) B1.out B2.out B3.out ?_); intro v5 w5 hown5 hg5 hm5 hb5; have HN5 : Hid (OEvs w5 w.heap.size v5 ((l.take (k + 1)).map evM)) := hid (by rw [← take_snoc HE.out, List.map_append]; exact OEvs.snoc (e := evM e) (lv := .slice A3 e.v.l.length c3) HCH.out (by rw [HLEN.out]; exact HOWN.out) hg5 (by rw [HLEN.out]) (by rw [HEV.out]; exact hown5) (by rw [HEV.out]; exact HM4.out.2.1) (Nat.le_trans hwr (Nat.le_succ _)) (by rw [HEV.out]; exact HOE.out)); obtain ⟨A5, c5, rfl⟩ := own_form hown5; have HK5 := hid (Below.trans (HKP.out.trans HM4.out.2.2) hb5); clear hown5 hg5 hm5 hb5)
            go_ret
            exact ⟨⟨_, rfl, by unfold eventsM; rw [← H4.out]; exact HN5.out⟩, HK5.out⟩
          · have t4 : ((k : Int) + 1 == 400) = false := by simp; omega
            have H4 := hid h4
            clear h4
            go_wp2_with (at_builtin; go_must (refine app_lit_at W.heap.size (by simp [World.setCell]) elEvent rfl (.tmp 66) (.tmp 68) rfl HOWN.out rfl _ _ 1 1 rfl rfl (by intro u hu; simp at hu; rcases hu with rfl | rfl | rfl | rfl | rfl | rfl <;> rfl) B1.out B2.out B3.out ?_); intro v5 w5 hown5 hg5 hm5 hb5; have HN5 : Hid (OEvs w5 w.heap.size v5 ((l.take (k + 1)).map evM)) := hid (by rw [← take_snoc HE.out, List.map_append]; exact OEvs.snoc (e := evM e) (lv := .slice A3 e.v.l.length c3) HCH.out (by rw [HLEN.out]; exact HOWN.out) hg5 (by rw [HLEN.out]) (by rw [HEV.out]; exact hown5) (by rw [HEV.out]; exact HM4.out.2.1) (Nat.le_trans hwr (Nat.le_succ _)) (by rw [HEV.out]; exact HOE.out)); obtain ⟨A5, c5, rfl⟩ := own_form hown5; have HK5 := hid (Below.trans (HKP.out.trans HM4.out.2.2) hb5); clear hown5 hg5 hm5 hb5)
            go_roundw
            case rel => exact ⟨k + 1, hlt, by have := H4.out; omega, by simp, HN5.out, HK5.out⟩
            case measure => simp [intOf]; omega
      · have hx : vk1 e.kind e.v.k = e.v.k := by
          have hn : ¬ (e.kind = 4 ∧ ¬ okV e.v.k) := by
            simp at a3; exact fun h => h.2 (.inr (.inl a3))
          unfold vk1; rw [if_neg (fun h => absurd h hn)]
        have HM2 := hid (show EvMid wr wr.heap.size ⟨e.kind, e.n, ⟨vk1 e.kind e.v.k, e.v.n, e.v.s, e.v.l⟩⟩ (.slice A3 e.v.l.length c3) ((((w2.setCell ⟨wr.heap.size, 2, none⟩ (.int .i64 e.v.k)).setCell ⟨wr.heap.size, 3, none⟩ (.int .i64 e.v.n)).setCell ⟨wr.heap.size, 4, none⟩ (.string e.v.s)).setCell ⟨wr.heap.size, 5, none⟩ (.slice A3 e.v.l.length c3)) from by rw [hx]; exact HM.out)
        clear hx
        go_wp2_with fail
        clear y0 y1 y2 y3 y4 y5 yf HM
        obtain ⟨v1, hv1⟩ : ∃ v1, vk1 e.kind e.v.k = v1 := ⟨_, rfl⟩
        rw [hv1] at HM2 HOKV
        have HV1 := hid hv1
        clear hv1
        generalize ((((w2.setCell ⟨wr.heap.size, 2, none⟩ (.int .i64 e.v.k)).setCell ⟨wr.heap.size, 3, none⟩ (.int .i64 e.v.n)).setCell ⟨wr.heap.size, 4, none⟩ (.string e.v.s)).setCell ⟨wr.heap.size, 5, none⟩ (.slice A3 e.v.l.length c3)) = W at HM2 ⊢
        have hc := spot_any (wrap64 (e.kind - 1)) 6 W (by omega) (by omega)
        have sb := spotV_bd (wrap64 (e.kind - 1)) 6 (by omega)
        obtain ⟨s, hs⟩ : ∃ s, spotV (wrap64 (e.kind - 1)) 6 = s := ⟨_, rfl⟩
        rw [hs] at hc sb
        have HS := hid (show kind1 e.kind = 1 + s by unfold kind1; rw [hs])
        clear hs
        refine hc.mono ?_; clear hc
        rintro e' w3 ⟨rfl, rfl⟩
        obtain ⟨sb0, sb1⟩ := sb
        obtain ⟨z0, z1, z2, z3, z4, z5⟩ := HM2.out.1.cells
        have zf := HM2.out.1.free
        dsimp only at z0 z1 z2 z3 z4 z5
        have HM3 := hid (HM2.out.setKind (1 + s))
        have hcb : ((1 + s == 4) = false ∨ ((1 + s == 4) = true ∧ (v1 != 3) = false)) ∨ (((1 + s == 4) = true ∧ (v1 != 3) = true ∧ (v1 != 5) = false) ∨ ((1 + s == 4) = true ∧ (v1 != 3) = true ∧ (v1 != 5) = true)) := by
          cases h1 : (1 + s == 4) <;> cases h2 : (v1 != 3) <;> cases h3 : (v1 != 5) <;> simp
        rcases hcb with (u1 | ⟨u1, u2⟩) | (⟨u1, u2, u3⟩ | ⟨u1, u2, u3⟩)
        · have hev : evM e = ⟨1 + s, e.n, ⟨v1, e.v.n, e.v.s, e.v.l⟩⟩ := by
            unfold evM
            rw [HS.out, HV1.out]
            have : vk2 (1 + s) v1 = v1 := by unfold vk2; rw [if_neg (fun h => by simp at u1; omega)]
            rw [this]
          have HEV := hid hev
          have HM4 : Hid (EvMid wr wr.heap.size ⟨1 + s, e.n, ⟨v1, e.v.n, e.v.s, e.v.l⟩⟩ (.slice A3 e.v.l.length c3) (W.setCell ⟨wr.heap.size, 0, none⟩ (.int .i64 (1 + s)))) := hid (HM3.out)
          obtain ⟨xs, hown, hch⟩ := HO.out.kp HM4.out.2.2
          rw [HLEN.out] at hown
          have HCH := hid hch; have HOWN := hid hown
          have B1 := hid (show k + 1 ≤ maxLen by unfold maxLen; omega)
          have B2 := hid (show (k + 1) * 72 ≤ 140737488355328 by omega)
          have B3 := hid (Nat.le_trans hwr HM4.out.2.2.le)
          have HOE := hid (show okE ⟨1 + s, e.n, ⟨v1, e.v.n, e.v.s, e.v.l⟩⟩ from ⟨ok_small (by show -1000 ≤ 1 + s; omega) (by show 1 + s ≤ _; omega), HOK.out.2.1, HOK.out.2.2.1, by show okI v1; exact HOKV.out, HOK.out.2.2.2.2⟩)
          obtain ⟨Ao, co, rfl⟩ := own_form hown
          clear hown hch hev HM3
          by_cases h4 : k + 1 = 400
          · have t4 : ((k : Int) + 1 == 400) = true := by simp; omega
            have H4 := hid h4
            clear h4
            go_wp2_with (at_builtin; go_must (refine app_lit_at W.heap.size (by simp [World.setCell]) elEvent rfl (.tmp 66) (.tmp 68) rfl HOWN.out rfl _ _ 1 1 rfl rfl (by intro u hu; simp at hu; rcases hu with rfl | rfl | rfl | rfl | rfl | rfl <;> rfl) B1.out B2.out B3.out ?_); intro v5 w5 hown5 hg5 hm5 hb5; have HN5 : Hid (OEvs w5 w.heap.size v5 ((l.take (k + 1)).map evM)) := hid (by rw [← take_snoc HE.out, List.map_append]; exact OEvs.snoc (e := evM e) (lv := .slice A3 e.v.l.length c3) HCH.out (by rw [HLEN.out]; exact HOWN.out) hg5 (by rw [HLEN.out]) (by rw [HEV.out]; exact hown5) (by rw [HEV.out]; exact HM4.out.2.1) (Nat.le_trans hwr (Nat.le_succ _)) (by rw [HEV.out]; exact HOE.out)); obtain ⟨A5, c5, rfl⟩ := own_form hown5; have HK5 := hid (Below.trans (HKP.out.trans HM4.out.2.2) hb5); clear hown5 hg5 hm5 hb5)
            go_ret
            exact ⟨⟨_, rfl, by unfold eventsM; rw [← H4.out]; exact HN5.out⟩, HK5.out⟩
          · have t4 : ((k : Int) + 1 == 400) = false := by simp; omega
            have H4 := hid h4
            clear h4
            go_wp2_with (at_builtin; go_must (refine app_lit_at W.heap.size (by simp [World.setCell]) elEvent rfl (.tmp 66) (.tmp 68) rfl HOWN.out rfl _ _ 1 1 rfl rfl (by intro u hu; simp at hu; rcases hu with rfl | rfl | rfl | rfl | rfl | rfl <;> rfl) B1.out B2.out B3.out ?_); intro v5 w5 hown5 hg5 hm5 hb5; have HN5 : Hid (OEvs w5 w.heap.size v5 ((l.take (k + 1)).map evM)) := hid (by rw [← take_snoc HE.out, List.map_append]; exact OEvs.snoc (e := evM e) (lv := .slice A3 e.v.l.length c3) HCH.out (by rw [HLEN.out]; exact HOWN.out) hg5 (by rw [HLEN.out]) (by rw [HEV.out]; exact hown5) (by rw [HEV.out]; exact HM4.out.2.1) (Nat.le_trans hwr (Nat.le_succ _)) (by rw [HEV.out]; exact HOE.out)); obtain ⟨A5, c5, rfl⟩ := own_form hown5; have HK5 := hid (Below.trans (HKP.out.trans HM4.out.2.2) hb5); clear hown5 hg5 hm5 hb5)
            go_roundw
            case rel => exact ⟨k + 1, hlt, by have := H4.out; omega, by simp, HN5.out, HK5.out⟩
            case measure => simp [intOf]; omega
        · have hev : evM e = ⟨1 + s, e.n, ⟨v1, e.v.n, e.v.s, e.v.l⟩⟩ := by
            unfold evM
            rw [HS.out, HV1.out]
            have : vk2 (1 + s) v1 = v1 := by unfold vk2; rw [if_neg (fun h => h.2 (.inl (by simpa using u2)))]
            rw [this]
          have HEV := hid hev
          have HM4 : Hid (EvMid wr wr.heap.size ⟨1 + s, e.n, ⟨v1, e.v.n, e.v.s, e.v.l⟩⟩ (.slice A3 e.v.l.length c3) (W.setCell ⟨wr.heap.size, 0, none⟩ (.int .i64 (1 + s)))) := hid (HM3.out)
          obtain ⟨xs, hown, hch⟩ := HO.out.kp HM4.out.2.2
          rw [HLEN.out] at hown
          have HCH := hid hch; have HOWN := hid hown
          have B1 := hid (show k + 1 ≤ maxLen by unfold maxLen; omega)
          have B2 := hid (show (k + 1) * 72 ≤ 140737488355328 by omega)
          have B3 := hid (Nat.le_trans hwr HM4.out.2.2.le)
          have HOE := hid (show okE ⟨1 + s, e.n, ⟨v1, e.v.n, e.v.s, e.v.l⟩⟩ from ⟨ok_small (by show -1000 ≤ 1 + s; omega) (by show 1 + s ≤ _; omega), HOK.out.2.1, HOK.out.2.2.1, by show okI v1; exact HOKV.out, HOK.out.2.2.2.2⟩)
          obtain ⟨Ao, co, rfl⟩ := own_form hown
          clear hown hch hev HM3
          by_cases h4 : k + 1 = 400
          · have t4 : ((k : Int) + 1 == 400) = true := by simp; omega
            have H4 := hid h4
            clear h4
            go_wp2_with (at_builtin; go_must (refine app_lit_at W.heap.size (by simp [World.setCell]) elEvent rfl (.tmp 66) (.tmp 68) rfl HOWN.out rfl _ _ 1 1 rfl rfl (by intro u hu; simp at hu; rcases hu with rfl | rfl | rfl | rfl | rfl | rfl <;> rfl) B1.out B2.out B3.out ?_); intro v5 w5 hown5 hg5 hm5 hb5; have HN5 : Hid (OEvs w5 w.heap.size v5 ((l.take (k + 1)).map evM)) := hid (by rw [← take_snoc HE.out, List.map_append]; exact OEvs.snoc (e := evM e) (lv := .slice A3 e.v.l.length c3) HCH.out (by rw [HLEN.out]; exact HOWN.out) hg5 (by rw [HLEN.out]) (by rw [HEV.out]; exact hown5) (by rw [HEV.out]; exact HM4.out.2.1) (Nat.le_trans hwr (Nat.le_succ _)) (by rw [HEV.out]; exact HOE.out)); obtain ⟨A5, c5, rfl⟩ := own_form hown5; have HK5 := hid (Below.trans (HKP.out.trans HM4.out.2.2) hb5); clear hown5 hg5 hm5 hb5)
            go_ret
            exact ⟨⟨_, rfl, by unfold eventsM; rw [← H4.out]; exact HN5.out⟩, HK5.out⟩
          · have t4 : ((k : Int) + 1 == 400) = false := by simp; omega
            have H4 := hid h4
            clear h4
            go_wp2_with (at_builtin; go_must (refine app_lit_at W.heap.size (by simp [World.setCell]) elEvent rfl (.tmp 66) (.tmp 68) rfl HOWN.out rfl _ _ 1 1 rfl rfl (by intro u hu; simp at hu; rcases hu with rfl | rfl | rfl | rfl | rfl | rfl <;> rfl) B1.out B2.out B3.out ?_); intro v5 w5 hown5 hg5 hm5 hb5; have HN5 : Hid (OEvs w5 w.heap.size v5 ((l.take (k + 1)).map evM)) := hid (by rw [← take_snoc HE.out, List.map_append]; exact OEvs.snoc (e := evM e) (lv := .slice A3 e.v.l.length c3) HCH.out (by rw [HLEN.out]; exact HOWN.out) hg5 (by rw [HLEN.out]) (by rw [HEV.out]; exact hown5) (by rw [HEV.out]; exact HM4.out.2.1) (Nat.le_trans hwr (Nat.le_succ _)) (by rw [HEV.out]; exact HOE.out)); obtain ⟨A5, c5, rfl⟩ := own_form hown5; have HK5 := hid (Below.trans (HKP.out.trans HM4.out.2.2) hb5); clear hown5 hg5 hm5 hb5)
            go_roundw
            case rel => exact ⟨k + 1, hlt, by have := H4.out; omega, by simp, HN5.out, HK5.out⟩
            case measure => simp [intOf]; omega
        · have hev : evM e = ⟨1 + s, e.n, ⟨v1, e.v.n, e.v.s, e.v.l⟩⟩ := by
            unfold evM
            rw [HS.out, HV1.out]
            have : vk2 (1 + s) v1 = v1 := by unfold vk2; rw [if_neg (fun h => h.2 (.inr (by simpa using u3)))]
            rw [this]
          have HEV := hid hev
          have HM4 : Hid (EvMid wr wr.heap.size ⟨1 + s, e.n, ⟨v1, e.v.n, e.v.s, e.v.l⟩⟩ (.slice A3 e.v.l.length c3) (W.setCell ⟨wr.heap.size, 0, none⟩ (.int .i64 (1 + s)))) := hid (HM3.out)
          obtain ⟨xs, hown, hch⟩ := HO.out.kp HM4.out.2.2
          rw [HLEN.out] at hown
          have HCH := hid hch; have HOWN := hid hown
          have B1 := hid (show k + 1 ≤ maxLen by unfold maxLen; omega)
          have B2 := hid (show (k + 1) * 72 ≤ 140737488355328 by omega)
          have B3 := hid (Nat.le_trans hwr HM4.out.2.2.le)
          have HOE := hid (show okE ⟨1 + s, e.n, ⟨v1, e.v.n, e.v.s, e.v.l⟩⟩ from ⟨ok_small (by show -1000 ≤ 1 + s; omega) (by show 1 + s ≤ _; omega), HOK.out.2.1, HOK.out.2.2.1, by show okI v1; exact HOKV.out, HOK.out.2.2.2.2⟩)
          obtain ⟨Ao, co, rfl⟩ := own_form hown
          clear hown hch hev HM3
          by_cases h4 : k + 1 = 400
          · have t4 : ((k : Int) + 1 == 400) = true := by simp; omega
            have H4 := hid h4
            clear h4
            go_wp2_with (at_builtin; go_must (refine app_lit_at W.heap.size (by simp [World.setCell]) elEvent rfl (.tmp 66) (.tmp 68) rfl HOWN.out rfl _ _ 1 1 rfl rfl (by intro u hu; simp at hu; rcases hu with rfl | rfl | rfl | rfl | rfl | rfl <;> rfl) B1.out B2.out B3.out ?_); intro v5 w5 hown5 hg5 hm5 hb5; have HN5 : Hid (OEvs w5 w.heap.size v5 ((l.take (k + 1)).map evM)) := hid (by rw [← take_snoc HE.out, List.map_append]; exact OEvs.snoc (e := evM e) (lv := .slice A3 e.v.l.length c3) HCH.out (by rw [HLEN.out]; exact HOWN.out) hg5 (by rw [HLEN.out]) (by rw [HEV.out]; exact hown5) (by rw [HEV.out]; exact HM4.out.2.1) (Nat.le_trans hwr (Nat.le_succ _)) (by rw [HEV.out]; exact HOE.out)); obtain ⟨A5, c5, rfl⟩ := own_form hown5; have HK5 := hid (Below.trans (HKP.out.trans HM4.out.2.2) hb5); clear hown5 hg5 hm5 hb5)
            go_ret
            exact ⟨⟨_, rfl, by unfold eventsM; rw [← H4.out]; exact HN5.out⟩, HK5.out⟩
          · have t4 : ((k : Int) + 1 == 400) = false := by simp; omega
            have H4 := hid h4
            clear h4
            go_wp2_with (at_builtin; go_must (refine app_lit_at W.heap.size (by simp [World.setCell]) elEvent rfl (.tmp 66) (.tmp 68) rfl HOWN.out rfl _ _ 1 1 rfl rfl (by intro u hu; simp at hu; rcases hu with rfl | rfl | rfl | rfl | rfl | rfl <;> rfl) B1.out B2.out B3.out ?_); intro v5 w5 hown5 hg5 hm5 hb5; have HN5 : Hid (OEvs w5 w.heap.size v5 ((l.take (k + 1)).map evM)) := hid (by rw [← take_snoc HE.out, List.map_append]; exact OEvs.snoc (e := evM e) (lv := .slice A3 e.v.l.length c3) HCH.out (by rw [HLEN.out]; exact HOWN.out) hg5 (by rw [HLEN.out]) (by rw [HEV.out]; exact hown5) (by rw [HEV.out]; exact HM4.out.2.1) (Nat.le_trans hwr (Nat.le_succ _)) (by rw [HEV.out]; exact HOE.out)); obtain ⟨A5, c5, rfl⟩ := own_form hown5; have HK5 := hid (Below.trans (HKP.out.trans HM4.out.2.2) hb5); clear hown5 hg5 hm5 hb5)
            go_roundw
            case rel => exact ⟨k + 1, hlt, by have := H4.out; omega, by simp, HN5.out, HK5.out⟩
            case measure => simp [intOf]; omega
        · have hev : evM e = ⟨1 + s, e.n, ⟨1, e.v.n, e.v.s, e.v.l⟩⟩ := by
            unfold evM
            rw [HS.out, HV1.out]
            have : vk2 (1 + s) v1 = 1 := by unfold vk2; rw [if_pos ⟨by simpa using u1, by simp at u2 u3; omega⟩]
            rw [this]
          have HEV := hid hev
          have HM4 : Hid (EvMid wr wr.heap.size ⟨1 + s, e.n, ⟨1, e.v.n, e.v.s, e.v.l⟩⟩ (.slice A3 e.v.l.length c3) ((W.setCell ⟨wr.heap.size, 0, none⟩ (.int .i64 (1 + s))).setCell ⟨wr.heap.size, 2, none⟩ (.int .i64 1))) := hid (HM3.out.setK 1)
          obtain ⟨xs, hown, hch⟩ := HO.out.kp HM4.out.2.2
          rw [HLEN.out] at hown
          have HCH := hid hch; have HOWN := hid hown
          have B1 := hid (show k + 1 ≤ maxLen by unfold maxLen; omega)
          have B2 := hid (show (k + 1) * 72 ≤ 140737488355328 by omega)
          have B3 := hid (Nat.le_trans hwr HM4.out.2.2.le)
          have HOE := hid (show okE ⟨1 + s, e.n, ⟨1, e.v.n, e.v.s, e.v.l⟩⟩ from ⟨ok_small (by show -1000 ≤ 1 + s; omega) (by show 1 + s ≤ _; omega), HOK.out.2.1, HOK.out.2.2.1, by show okI 1; exact ok_small (by omega) (by omega), HOK.out.2.2.2.2⟩)
          obtain ⟨Ao, co, rfl⟩ := own_form hown
          clear hown hch hev HM3
          by_cases h4 : k + 1 = 400
          · have t4 : ((k : Int) + 1 == 400) = true := by simp; omega
            have H4 := hid h4
            clear h4
            go_wp2_with (at_builtin; go_must (refine app_lit_at W.heap.size (by simp [World.setCell]) elEvent rfl (.tmp 66) (.tmp 68) rfl HOWN.out rfl _ _ 1 1 rfl rfl (by intro u hu; simp at hu; rcases hu with rfl | rfl | rfl | rfl | rfl | rfl <;> rfl) B1.out B2.out B3.out ?_); intro v5 w5 hown5 hg5 hm5 hb5; have HN5 : Hid (OEvs w5 w.heap.size v5 ((l.take (k + 1)).map evM)) := hid (by rw [← take_snoc HE.out, List.map_append]; exact OEvs.snoc (e := evM e) (lv := .slice A3 e.v.l.length c3) HCH.out (by rw [HLEN.out]; exact HOWN.out) hg5 (by rw [HLEN.out]) (by rw [HEV.out]; exact hown5) (by rw [HEV.out]; exact HM4.out.2.1) (Nat.le_trans hwr (Nat.le_succ _)) (by rw [HEV.out]; exact HOE.out)); obtain ⟨A5, c5, rfl⟩ := own_form hown5; have HK5 := hid (Below.trans (HKP.out.trans HM4.out.2.2) hb5); clear hown5 hg5 hm5 hb5)
            go_ret
            exact ⟨⟨_, rfl, by unfold eventsM; rw [← H4.out]; exact HN5.out⟩, HK5.out⟩
          · have t4 : ((k : Int) + 1 == 400) = false := by simp; omega
            have H4 := hid h4
            clear h4
            go_wp2_with (at_builtin; go_must (refine app_lit_at W.heap.size (by simp [World.setCell]) elEvent rfl (.tmp 66) (.tmp 68) rfl HOWN.out rfl _ _ 1 1 rfl rfl (by intro u hu; simp at hu; rcases hu with rfl | rfl | rfl | rfl | rfl | rfl <;> rfl) B1.out B2.out B3.out ?_); intro v5 w5 hown5 hg5 hm5 hb5; have HN5 : Hid (OEvs w5 w.heap.size v5 ((l.take (k + 1)).map evM)) := hid (by rw [← take_snoc HE.out, List.map_append]; exact OEvs.snoc (e := evM e) (lv := .slice A3 e.v.l.length c3) HCH.out (by rw [HLEN.out]; exact HOWN.out) hg5 (by rw [HLEN.out]) (by rw [HEV.out]; exact hown5) (by rw [HEV.out]; exact HM4.out.2.1) (Nat.le_trans hwr (Nat.le_succ _)) (by rw [HEV.out]; exact HOE.out)); obtain ⟨A5, c5, rfl⟩ := own_form hown5; have HK5 := hid (Below.trans (HKP.out.trans HM4.out.2.2) hb5); clear hown5 hg5 hm5 hb5)
            go_roundw
            case rel => exact ⟨k + 1, hlt, by have := H4.out; omega, by simp, HN5.out, HK5.out⟩
            case measure => simp [intOf]; omega
      · have hx : vk1 e.kind e.v.k = e.v.k := by
          have hn : ¬ (e.kind = 4 ∧ ¬ okV e.v.k) := by
            simp at a4; exact fun h => h.2 (.inr (.inr a4))
          unfold vk1; rw [if_neg (fun h => absurd h hn)]
        have HM2 := hid (show EvMid wr wr.heap.size ⟨e.kind, e.n, ⟨vk1 e.kind e.v.k, e.v.n, e.v.s, e.v.l⟩⟩ (.slice A3 e.v.l.length c3) ((((w2.setCell ⟨wr.heap.size, 2, none⟩ (.int .i64 e.v.k)).setCell ⟨wr.heap.size, 3, none⟩ (.int .i64 e.v.n)).setCell ⟨wr.heap.size, 4, none⟩ (.string e.v.s)).setCell ⟨wr.heap.size, 5, none⟩ (.slice A3 e.v.l.length c3)) from by rw [hx]; exact HM.out)
        clear hx
        go_wp2_with fail
        clear y0 y1 y2 y3 y4 y5 yf HM
        obtain ⟨v1, hv1⟩ : ∃ v1, vk1 e.kind e.v.k = v1 := ⟨_, rfl⟩
        rw [hv1] at HM2 HOKV
        have HV1 := hid hv1
        clear hv1
        generalize ((((w2.setCell ⟨wr.heap.size, 2, none⟩ (.int .i64 e.v.k)).setCell ⟨wr.heap.size, 3, none⟩ (.int .i64 e.v.n)).setCell ⟨wr.heap.size, 4, none⟩ (.string e.v.s)).setCell ⟨wr.heap.size, 5, none⟩ (.slice A3 e.v.l.length c3)) = W at HM2 ⊢
        have hc := spot_any (wrap64 (e.kind - 1)) 6 W (by omega) (by omega)
        have sb := spotV_bd (wrap64 (e.kind - 1)) 6 (by omega)
        obtain ⟨s, hs⟩ : ∃ s, spotV (wrap64 (e.kind - 1)) 6 = s := ⟨_, rfl⟩
        rw [hs] at hc sb
        have HS := hid (show kind1 e.kind = 1 + s by unfold kind1; rw [hs])
        clear hs
        refine hc.mono ?_; clear hc
        rintro e' w3 ⟨rfl, rfl⟩
        obtain ⟨sb0, sb1⟩ := sb
        obtain ⟨z0, z1, z2, z3, z4, z5⟩ := HM2.out.1.cells
        have zf := HM2.out.1.free
        dsimp only at z0 z1 z2 z3 z4 z5
        have HM3 := hid (HM2.out.setKind (1 + s))
        have hcb : ((1 + s == 4) = false ∨ ((1 + s == 4) = true ∧ (v1 != 3) = false)) ∨ (((1 + s == 4) = true ∧ (v1 != 3) = true ∧ (v1 != 5) = false) ∨ ((1 + s == 4) = true ∧ (v1 != 3) = true ∧ (v1 != 5) = true)) := by
          cases h1 : (1 + s == 4) <;> cases h2 : (v1 != 3) <;> cases h3 : (v1 != 5) <;> simp
        rcases hcb with (u1 | ⟨u1, u2⟩) | (⟨u1, u2, u3⟩ | ⟨u1, u2, u3⟩)
        · have hev : evM e = ⟨1 + s, e.n, ⟨v1, e.v.n, e.v.s, e.v.l⟩⟩ := by
            unfold evM
            rw [HS.out, HV1.out]
            have : vk2 (1 + s) v1 = v1 := by unfold vk2; rw [if_neg (fun h => by simp at u1; omega)]
            rw [this]
          have HEV := hid hev
          have HM4 : Hid (EvMid wr wr.heap.size ⟨1 + s, e.n, ⟨v1, e.v.n, e.v.s, e.v.l⟩⟩ (.slice A3 e.v.l.length c3) (W.setCell ⟨wr.heap.size, 0, none⟩ (.int .i64 (1 + s)))) := hid (HM3.out)
          obtain ⟨xs, hown, hch⟩ := HO.out.kp HM4.out.2.2
          rw [HLEN.out] at hown
          have HCH := hid hch; have HOWN := hid hown
          have B1 := hid (show k + 1 ≤ maxLen by unfold maxLen; omega)
          have B2 := hid (show (k + 1) * 72 ≤ 140737488355328 by omega)
          have B3 := hid (Nat.le_trans hwr HM4.out.2.2.le)
          have HOE := hid (show okE ⟨1 + s, e.n, ⟨v1, e.v.n, e.v.s, e.v.l⟩⟩ from ⟨ok_small (by show -1000 ≤ 1 + s; omega) (by show 1 + s ≤ _; omega), HOK.out.2.1, HOK.out.2.2.1, by show okI v1; exact HOKV.out, HOK.out.2.2.2.2⟩)
          obtain ⟨Ao, co, rfl⟩ := own_form hown
          clear hown hch hev HM3
          by_cases h4 : k + 1 = 400
          · have t4 : ((k : Int) + 1 == 400) = true := by simp; omega
            have H4 := hid h4
            clear h4
            go_wp2_with (at_builtin; go_must (refine app_lit_at W.heap.size (by simp [World.setCell]) elEvent rfl (.tmp 66) (.tmp 68) rfl HOWN.out rfl _ _ 1 1 rfl rfl (by intro u hu; simp at hu; rcases hu with rfl | rfl | rfl | rfl | rfl | rfl <;> rfl) B1.out B2.out B3.out ?_); intro v5 w5 hown5 hg5 hm5 hb5; have HN5 : Hid (OEvs w5 w.heap.size v5 ((l.take (k + 1)).map evM)) := hid (by rw [← take_snoc HE.out, List.map_append]; exact OEvs.snoc (e := evM e) (lv := .slice A3 e.v.l.length c3) HCH.out (by rw [HLEN.out]; exact HOWN.out) hg5 (by rw [HLEN.out]) (by rw [HEV.out]; exact hown5) (by rw [HEV.out]; exact HM4.out.2.1) (Nat.le_trans hwr (Nat.le_succ _)) (by rw [HEV.out]; exact HOE.out)); obtain ⟨A5, c5, rfl⟩ := own_form hown5; have HK5 := hid (Below.trans (HKP.out.trans HM4.out.2.2) hb5); clear hown5 hg5 hm5 hb5)
            go_ret
            exact ⟨⟨_, rfl, by unfold eventsM; rw [← H4.out]; exact HN5.out⟩, HK5.out⟩
          · have t4 : ((k : Int) + 1 == 400) = false := by simp; omega
            have H4 := hid h4
            clear h4
            go_wp2_with (at_builtin; go_must (refine app_lit_at W.heap.size (by simp [World.setCell]) elEvent rfl (.tmp 66) (.tmp 68) rfl HOWN.out rfl _ _ 1 1 rfl rfl (by intro u hu; simp at hu; rcases hu with rfl | rfl | rfl | rfl | rfl | rfl <;> rfl) B1.out B2.out B3.out ?_); intro v5 w5 hown5 hg5 hm5 hb5; have HN5 : Hid (OEvs w5 w.heap.size v5 ((l.take (k + 1)).map evM)) := hid (by rw [← take_snoc HE.out, List.map_append]; exact OEvs.snoc (e := evM e) (lv := .slice A3 e.v.l.length c3) HCH.out (by rw [HLEN.out]; exact HOWN.out) hg5 (by rw [HLEN.out]) (by rw [HEV.out]; exact hown5) (by rw [HEV.out]; exact HM4.out.2.1) (Nat.le_trans hwr (Nat.le_succ _)) (by rw [HEV.out]; exact HOE.out)); obtain ⟨A5, c5, rfl⟩ := own_form hown5; have HK5 := hid (Below.trans (HKP.out.trans HM4.out.2.2) hb5); clear hown5 hg5 hm5 hb5)
            go_roundw
            case rel => exact ⟨k + 1, hlt, by have := H4.out; omega, by simp, HN5.out, HK5.out⟩
            case measure => simp [intOf]; omega
        · have hev : evM e = ⟨1 + s, e.n, ⟨v1, e.v.n, e.v.s, e.v.l⟩⟩ := by
            unfold evM
            rw [HS.out, HV1.out]
            have : vk2 (1 + s) v1 = v1 := by unfold vk2; rw [if_neg (fun h => h.2 (.inl (by simpa using u2)))]
            rw [this]
          have HEV := hid hev
          have HM4 : Hid (EvMid wr wr.heap.size ⟨1 + s, e.n, ⟨v1, e.v.n, e.v.s, e.v.l⟩⟩ (.slice A3 e.v.l.length c3) (W.setCell ⟨wr.heap.size, 0, none⟩ (.int .i64 (1 + s)))) := hid (HM3.out)
          obtain ⟨xs, hown, hch⟩ := HO.out.kp HM4.out.2.2
          rw [HLEN.out] at hown
          have HCH := hid hch; have HOWN := hid hown
          have B1 := hid (show k + 1 ≤ maxLen by unfold maxLen; omega)
          have B2 := hid (show (k + 1) * 72 ≤ 140737488355328 by omega)
          have B3 := hid (Nat.le_trans hwr HM4.out.2.2.le)
          have HOE := hid (show okE ⟨1 + s, e.n, ⟨v1, e.v.n, e.v.s, e.v.l⟩⟩ from ⟨ok_small (by show -1000 ≤ 1 + s; omega) (by show 1 + s ≤ _; omega), HOK.out.2.1, HOK.out.2.2.1, by show okI v1; exact HOKV.out, HOK.out.2.2.2.2⟩)
          obtain ⟨Ao, co, rfl⟩ := own_form hown
          clear hown hch hev HM3
          by_cases h4 : k + 1 = 400
          · have t4 : ((k : Int) + 1 == 400) = true := by simp; omega
            have H4 := hid h4
            clear h4
            go_wp2_with (at_builtin; go_must (refine app_lit_at W.heap.size (by simp [World.setCell]) elEvent rfl (.tmp 66) (.tmp 68) rfl HOWN.out rfl _ _ 1 1 rfl rfl (by intro u hu; simp at hu; rcases hu with rfl | rfl | rfl | rfl | rfl | rfl <;> rfl) B1.out B2.out B3.out ?_); intro v5 w5 hown5 hg5 hm5 hb5; have HN5 : Hid (OEvs w5 w.heap.size v5 ((l.take (k + 1)).map evM)) := hid (by rw [← take_snoc HE.out, List.map_append]; exact OEvs.snoc (e := evM e) (lv := .slice A3 e.v.l.length c3) HCH.out (by rw [HLEN.out]; exact HOWN.out) hg5 (by rw [HLEN.out]) (by rw [HEV.out]; exact hown5) (by rw [HEV.out]; exact HM4.out.2.1) (Nat.le_trans hwr (Nat.le_succ _)) (by rw [HEV.out]; exact HOE.out)); obtain ⟨A5, c5, rfl⟩ := own_form hown5; have HK5 := hid (Below.trans (HKP.out.trans HM4.out.2.2) hb5); clear hown5 hg5 hm5 hb5)
            go_ret
            exact ⟨⟨_, rfl, by unfold eventsM; rw [← H4.out]; exact HN5.out⟩, HK5.out⟩
          · have t4 : ((k : Int) + 1 == 400) = false := by simp; omega
            have H4 := hid h4
            clear h4
            go_wp2_with (at_builtin; go_must (refine app_lit_at W.heap.size (by simp [World.setCell]) elEvent rfl (.tmp 66) (.tmp 68) rfl HOWN.out rfl _ _ 1 1 rfl rfl (by intro u hu; simp at hu; rcases hu with rfl | rfl | rfl | rfl | rfl | rfl <;> rfl) B1.out B2.out B3.out ?_); intro v5 w5 hown5 hg5 hm5 hb5; have HN5 : Hid (OEvs w5 w.heap.size v5 ((l.take (k + 1)).map evM)) := hid (by rw [← take_snoc HE.out, List.map_append]; exact OEvs.snoc (e := evM e) (lv := .slice A3 e.v.l.length c3) HCH.out (by rw [HLEN.out]; exact HOWN.out) hg5 (by rw [HLEN.out]) (by rw [HEV.out]; exact hown5) (by rw [HEV.out]; exact HM4.out.2.1) (Nat.le_trans hwr (Nat.le_succ _)) (by rw [HEV.out]; exact HOE.out)); obtain ⟨A5, c5, rfl⟩ := own_form hown5; have HK5 := hid (Below.trans (HKP.out.trans HM4.out.2.2) hb5); clear hown5 hg5 hm5 hb5)
            go_roundw
            case rel => exact ⟨k + 1, hlt, by have := H4.out; omega, by simp, HN5.out, HK5.out⟩
            case measure => simp [intOf]; omega
        · have hev : evM e = ⟨1 + s, e.n, ⟨v1, e.v.n, e.v.s, e.v.l⟩⟩ := by
            unfold evM
            rw [HS.out, HV1.out]
            have : vk2 (1 + s) v1 = v1 := by unfold vk2; rw [if_neg (fun h => h.2 (.inr (by simpa using u3)))]
            rw [this]
          have HEV := hid hev
          have HM4 : Hid (EvMid wr wr.heap.size ⟨1 + s, e.n, ⟨v1, e.v.n, e.v.s, e.v.l⟩⟩ (.slice A3 e.v.l.length c3) (W.setCell ⟨wr.heap.size, 0, none⟩ (.int .i64 (1 + s)))) := hid (HM3.out)
          obtain ⟨xs, hown, hch⟩ := HO.out.kp HM4.out.2.2
          rw [HLEN.out] at hown
          have HCH := hid hch; have HOWN := hid hown
          have B1 := hid (show k + 1 ≤ maxLen by unfold maxLen; omega)
          have B2 := hid (show (k + 1) * 72 ≤ 140737488355328 by omega)
          have B3 := hid (Nat.le_trans hwr HM4.out.2.2.le)
          have HOE := hid (show okE ⟨1 + s, e.n, ⟨v1, e.v.n, e.v.s, e.v.l⟩⟩ from ⟨ok_small (by show -1000 ≤ 1 + s; omega) (by show 1 + s ≤ _; omega), HOK.out.2.1, HOK.out.2.2.1, by show okI v1; exact HOKV.out, HOK.out.2.2.2.2⟩)
          obtain ⟨Ao, co, rfl⟩ := own_form hown
          clear hown hch hev HM3
          by_cases h4 : k + 1 = 400
          · have t4 : ((k : Int) + 1 == 400) = true := by simp; omega
            have H4 := hid h4
            clear h4
            go_wp2_with (at_builtin; go_must (refine app_lit_at W.heap.size (by simp [World.setCell]) elEvent rfl (.tmp 66) (.tmp 68) rfl HOWN.out rfl _ _ 1 1 rfl rfl (by intro u hu; simp at hu; rcases hu with rfl | rfl | rfl | rfl | rfl | rfl <;> rfl) B1.out B2.out B3.out ?_); intro v5 w5 hown5 hg5 hm5 hb5; have HN5 : Hid (OEvs w5 w.heap.size v5 ((l.take (k + 1)).map evM)) := hid (by rw [← take_snoc HE.out, List.map_append]; exact OEvs.snoc (e := evM e) (lv := .slice A3 e.v.l.length c3) HCH.out (by rw [HLEN.out]; exact HOWN.out) hg5 (by rw [HLEN.out]) (by rw [HEV.out]; exact hown5) (by rw [HEV.out]; exact HM4.out.2.1) (Nat.le_trans hwr (Nat.le_succ _)) (by rw [HEV.out]; exact HOE.out)); obtain ⟨A5, c5, rfl⟩ := own_form hown5; have HK5 := hid (Below.trans (HKP.out.trans HM4.out.2.2) hb5); clear hown5 hg5 hm5 hb5)
            go_ret
            exact ⟨⟨_, rfl, by unfold eventsM; rw [← H4.out]; exact HN5.out⟩, HK5.out⟩
          · have t4 : ((k : Int) + 1 == 400) = false := by simp; omega
            have H4 := hid h4
            clear h4
            go_wp2_with (at_builtin; go_must (refine app_lit_at W.heap.size (by simp [World.setCell]) elEvent rfl (.tmp 66) (.tmp 68) rfl HOWN.out rfl _ _ 1 1 rfl rfl (by intro u hu; simp at hu; rcases hu with rfl | rfl | rfl | rfl | rfl | rfl <;> rfl) B1.out B2.out B3.out ?_); intro v5 w5 hown5 hg5 hm5 hb5; have HN5 : Hid (OEvs w5 w.heap.size v5 ((l.take (k + 1)).map evM)) := hid (by rw [← take_snoc HE.out, List.map_append]; exact OEvs.snoc (e := evM e) (lv := .slice A3 e.v.l.length c3) HCH.out (by rw [HLEN.out]; exact HOWN.out) hg5 (by rw [HLEN.out]) (by rw [HEV.out]; exact hown5) (by rw [HEV.out]; exact HM4.out.2.1) (Nat.le_trans hwr (Nat.le_succ _)) (by rw [HEV.out]; exact HOE.out)); obtain ⟨A5, c5, rfl⟩ := own_form hown5; have HK5 := hid (Below.trans (HKP.out.trans HM4.out.2.2) hb5); clear hown5 hg5 hm5 hb5)
            go_roundw
            case rel => exact ⟨k + 1, hlt, by have := H4.out; omega, by simp, HN5.out, HK5.out⟩
            case measure => simp [intOf]; omega
        · have hev : evM e = ⟨1 + s, e.n, ⟨1, e.v.n, e.v.s, e.v.l⟩⟩ := by
            unfold evM
            rw [HS.out, HV1.out]
            have : vk2 (1 + s) v1 = 1 := by unfold vk2; rw [if_pos ⟨by simpa using u1, by simp at u2 u3; omega⟩]
            rw [this]
          have HEV := hid hev
          have HM4 : Hid (EvMid wr wr.heap.size ⟨1 + s, e.n, ⟨1, e.v.n, e.v.s, e.v.l⟩⟩ (.slice A3 e.v.l.length c3) ((W.setCell ⟨wr.heap.size, 0, none⟩ (.int .i64 (1 + s))).setCell ⟨wr.heap.size, 2, none⟩ (.int .i64 1))) := hid (HM3.out.setK 1)
          obtain ⟨xs, hown, hch⟩ := HO.out.kp HM4.out.2.2
          rw [HLEN.out] at hown
          have HCH := hid hch; have HOWN := hid hown
          have B1 := hid (show k + 1 ≤ maxLen by unfold maxLen; omega)
          have B2 := hid (show (k + 1) * 72 ≤ 140737488355328 by omega)
          have B3 := hid (Nat.le_trans hwr HM4.out.2.2.le)
          have HOE := hid (show okE ⟨1 + s, e.n, ⟨1, e.v.n, e.v.s, e.v.l⟩⟩ from ⟨ok_small (by show -1000 ≤ 1 + s; omega) (by show 1 + s ≤ _; omega), HOK.out.2.1, HOK.out.2.2.1, by show okI 1; exact ok_small (by omega) (by omega), HOK.out.2.2.2.2⟩)
          obtain ⟨Ao, co, rfl⟩ := own_form hown
          clear hown hch hev HM3
          by_cases h4 : k + 1 = 400
          · have t4 : ((k : Int) + 1 == 400) = true := by simp; omega
            have H4 := hid h4
            clear h4
            go_wp2_with (at_builtin; go_must (refine app_lit_at W.heap.size (by simp [World.setCell]) elEvent rfl (.tmp 66) (.tmp 68) rfl HOWN.out rfl _ _ 1 1 rfl rfl (by intro u hu; simp at hu; rcases hu with rfl | rfl | rfl | rfl | rfl | rfl <;> rfl) B1.out B2.out B3.out ?_); intro v5 w5 hown5 hg5 hm5 hb5; have HN5 : Hid (OEvs w5 w.heap.size v5 ((l.take (k + 1)).map evM)) := hid (by rw [← take_snoc HE.out, List.map_append]; exact OEvs.snoc (e := evM e) (lv := .slice A3 e.v.l.length c3) HCH.out (by rw [HLEN.out]; exact HOWN.out) hg5 (by rw [HLEN.out]) (by rw [HEV.out]; exact hown5) (by rw [HEV.out]; exact HM4.out.2.1) (Nat.le_trans hwr (Nat.le_succ _)) (by rw [HEV.out]; exact HOE.out)); obtain ⟨A5, c5, rfl⟩ := own_form hown5; have HK5 := hid (Below.trans (HKP.out.trans HM4.out.2.2) hb5); clear hown5 hg5 hm5 hb5)
            go_ret
            exact ⟨⟨_, rfl, by unfold eventsM; rw [← H4.out]; exact HN5.out⟩, HK5.out⟩
          · have t4 : ((k : Int) + 1 == 400) = false := by simp; omega
            have H4 := hid h4
            clear h4
            go_wp2_with (at_builtin; go_must (refine app_lit_at W.heap.size (by simp [World.setCell]) elEvent rfl (.tmp 66) (.tmp 68) rfl HOWN.out rfl _ _ 1 1 rfl rfl (by intro u hu; simp at hu; rcases hu with rfl | rfl | rfl | rfl | rfl | rfl <;> rfl) B1.out B2.out B3.out ?_); intro v5 w5 hown5 hg5 hm5 hb5; have HN5 : Hid (OEvs w5 w.heap.size v5 ((l.take (k + 1)).map evM)) := hid (by rw [← take_snoc HE.out, List.map_append]; exact OEvs.snoc (e := evM e) (lv := .slice A3 e.v.l.length c3) HCH.out (by rw [HLEN.out]; exact HOWN.out) hg5 (by rw [HLEN.out]) (by rw [HEV.out]; exact hown5) (by rw [HEV.out]; exact HM4.out.2.1) (Nat.le_trans hwr (Nat.le_succ _)) (by rw [HEV.out]; exact HOE.out)); obtain ⟨A5, c5, rfl⟩ := own_form hown5; have HK5 := hid (Below.trans (HKP.out.trans HM4.out.2.2) hb5); clear hown5 hg5 hm5 hb5)
            go_roundw
            case rel => exact ⟨k + 1, hlt, by have := H4.out; omega, by simp, HN5.out, HK5.out⟩
            case measure => simp [intOf]; omega
      · have hx : vk1 e.kind e.v.k = 1 := by
          unfold vk1; rw [if_pos ⟨by simpa using a1, by simp at a2 a3 a4; unfold okV; omega⟩]
        have HM2 := hid (show EvMid wr wr.heap.size ⟨e.kind, e.n, ⟨vk1 e.kind e.v.k, e.v.n, e.v.s, e.v.l⟩⟩ (.slice A3 e.v.l.length c3) (((((w2.setCell ⟨wr.heap.size, 2, none⟩ (.int .i64 e.v.k)).setCell ⟨wr.heap.size, 3, none⟩ (.int .i64 e.v.n)).setCell ⟨wr.heap.size, 4, none⟩ (.string e.v.s)).setCell ⟨wr.heap.size, 5, none⟩ (.slice A3 e.v.l.length c3)).setCell ⟨wr.heap.size, 2, none⟩ (.int .i64 1)) from by rw [hx]; exact HM.out.setK 1)
        clear hx
        go_wp2_with fail
        clear y0 y1 y2 y3 y4 y5 yf HM
        obtain ⟨v1, hv1⟩ : ∃ v1, vk1 e.kind e.v.k = v1 := ⟨_, rfl⟩
        rw [hv1] at HM2 HOKV
        have HV1 := hid hv1
        clear hv1
        generalize (((((w2.setCell ⟨wr.heap.size, 2, none⟩ (.int .i64 e.v.k)).setCell ⟨wr.heap.size, 3, none⟩ (.int .i64 e.v.n)).setCell ⟨wr.heap.size, 4, none⟩ (.string e.v.s)).setCell ⟨wr.heap.size, 5, none⟩ (.slice A3 e.v.l.length c3)).setCell ⟨wr.heap.size, 2, none⟩ (.int .i64 1)) = W at HM2 ⊢
        have hc := spot_any (wrap64 (e.kind - 1)) 6 W (by omega) (by omega)
        have sb := spotV_bd (wrap64 (e.kind - 1)) 6 (by omega)
        obtain ⟨s, hs⟩ : ∃ s, spotV (wrap64 (e.kind - 1)) 6 = s := ⟨_, rfl⟩
        rw [hs] at hc sb
        have HS := hid (show kind1 e.kind = 1 + s by unfold kind1; rw [hs])
        clear hs
        refine hc.mono ?_; clear hc
        rintro e' w3 ⟨rfl, rfl⟩
        obtain ⟨sb0, sb1⟩ := sb
        obtain ⟨z0, z1, z2, z3, z4, z5⟩ := HM2.out.1.cells
        have zf := HM2.out.1.free
        dsimp only at z0 z1 z2 z3 z4 z5
        have HM3 := hid (HM2.out.setKind (1 + s))
        have hcb : ((1 + s == 4) = false ∨ ((1 + s == 4) = true ∧ (v1 != 3) = false)) ∨ (((1 + s == 4) = true ∧ (v1 != 3) = true ∧ (v1 != 5) = false) ∨ ((1 + s == 4) = true ∧ (v1 != 3) = true ∧ (v1 != 5) = true)) := by
          cases h1 : (1 + s == 4) <;> cases h2 : (v1 != 3) <;> cases h3 : (v1 != 5) <;> simp
        rcases hcb with (u1 | ⟨u1, u2⟩) | (⟨u1, u2, u3⟩ | ⟨u1, u2, u3⟩)
        · have hev : evM e = ⟨1 + s, e.n, ⟨v1, e.v.n, e.v.s, e.v.l⟩⟩ := by
            unfold evM
            rw [HS.out, HV1.out]
            have : vk2 (1 + s) v1 = v1 := by unfold vk2; rw [if_neg (fun h => by simp at u1; omega)]
            rw [this]
          have HEV := hid hev
          have HM4 : Hid (EvMid wr wr.heap.size ⟨1 + s, e.n, ⟨v1, e.v.n, e.v.s, e.v.l⟩⟩ (.slice A3 e.v.l.length c3) (W.setCell ⟨wr.heap.size, 0, none⟩ (.int .i64 (1 + s)))) := hid (HM3.out)
          obtain ⟨xs, hown, hch⟩ := HO.out.kp HM4.out.2.2
          rw [HLEN.out] at hown
          have HCH := hid hch; have HOWN := hid hown
          have B1 := hid (show k + 1 ≤ maxLen by unfold maxLen; omega)
          have B2 := hid (show (k + 1) * 72 ≤ 140737488355328 by omega)
          have B3 := hid (Nat.le_trans hwr HM4.out.2.2.le)
          have HOE := hid (show okE ⟨1 + s, e.n, ⟨v1, e.v.n, e.v.s, e.v.l⟩⟩ from ⟨ok_small (by show -1000 ≤ 1 + s; omega) (by show 1 + s ≤ _; omega), HOK.out.2.1, HOK.out.2.2.1, by show okI v1; exact HOKV.out, HOK.out.2.2.2.2⟩)
          obtain ⟨Ao, co, rfl⟩ := own_form hown
          clear hown hch hev HM3
          by_cases h4 : k + 1 = 400
          · have t4 : ((k : Int) + 1 == 400) = true := by simp; omega
            have H4 := hid h4
            clear h4
            go_wp2_with (at_builtin; go_must (refine app_lit_at W.heap.size (by simp [World.setCell]) elEvent rfl (.tmp 66) (.tmp 68) rfl HOWN.out rfl _ _ 1 1 rfl rfl (by intro u hu; simp at hu; rcases hu with rfl | rfl | rfl | rfl | rfl | rfl <;> rfl) B1.out B2.out B3.out ?_); intro v5 w5 hown5 hg5 hm5 hb5; have HN5 : Hid (OEvs w5 w.heap.size v5 ((l.take (k + 1)).map evM)) := hid (by rw [← take_snoc HE.out, List.map_append]; exact OEvs.snoc (e := evM e) (lv := .slice A3 e.v.l.length c3) HCH.out (by rw [HLEN.out]; exact HOWN.out) hg5 (by rw [HLEN.out]) (by rw [HEV.out]; exact hown5) (by rw [HEV.out]; exact HM4.out.2.1) (Nat.le_trans hwr (Nat.le_succ _)) (by rw [HEV.out]; exact HOE.out)); obtain ⟨A5, c5, rfl⟩ := own_form hown5; have HK5 := hid (Below.trans (HKP.out.trans HM4.out.2.2) hb5); clear hown5 hg5 hm5 hb5)
            go_ret
            exact ⟨⟨_, rfl, by unfold eventsM; rw [← H4.out]; exact HN5.out⟩, HK5.out⟩
          · have t4 : ((k : Int) + 1 == 400) = false := by simp; omega
            have H4 := hid h4
            clear h4
            go_wp2_with (at_builtin; go_must (refine app_lit_at W.heap.size (by simp [World.setCell]) elEvent rfl (.tmp 66) (.tmp 68) rfl HOWN.out rfl _ _ 1 1 rfl rfl (by intro u hu; simp at hu; rcases hu with rfl | rfl | rfl | rfl | rfl | rfl <;> rfl) B1.out B2.out B3.out ?_); intro v5 w5 hown5 hg5 hm5 hb5; have HN5 : Hid (OEvs w5 w.heap.size v5 ((l.take (k + 1)).map evM)) := hid (by rw [← take_snoc HE.out, List.map_append]; exact OEvs.snoc (e := evM e) (lv := .slice A3 e.v.l.length c3) HCH.out (by rw [HLEN.out]; exact HOWN.out) hg5 (by rw [HLEN.out]) (by rw [HEV.out]; exact hown5) (by rw [HEV.out]; exact HM4.out.2.1) (Nat.le_trans hwr (Nat.le_succ _)) (by rw [HEV.out]; exact HOE.out)); obtain ⟨A5, c5, rfl⟩ := own_form hown5; have HK5 := hid (Below.trans (HKP.out.trans HM4.out.2.2) hb5); clear hown5 hg5 hm5 hb5)
            go_roundw
            case rel => exact ⟨k + 1, hlt, by have := H4.out; omega, by simp, HN5.out, HK5.out⟩
            case measure => simp [intOf]; omega
        · have hev : evM e = ⟨1 + s, e.n, ⟨v1, e.v.n, e.v.s, e.v.l⟩⟩ := by
            unfold evM
            rw [HS.out, HV1.out]
            have : vk2 (1 + s) v1 = v1 := by unfold vk2; rw [if_neg (fun h => h.2 (.inl (by simpa using u2)))]
            rw [this]
          have HEV := hid hev
          have HM4 : Hid (EvMid wr wr.heap.size ⟨1 + s, e.n, ⟨v1, e.v.n, e.v.s, e.v.l⟩⟩ (.slice A3 e.v.l.length c3) (W.setCell ⟨wr.heap.size, 0, none⟩ (.int .i64 (1 + s)))) := hid (HM3.out)
          obtain ⟨xs, hown, hch⟩ := HO.out.kp HM4.out.2.2
          rw [HLEN.out] at hown
          have HCH := hid hch; have HOWN := hid hown
          have B1 := hid (show k + 1 ≤ maxLen by unfold maxLen; omega)
          have B2 := hid (show (k + 1) * 72 ≤ 140737488355328 by omega)
          have B3 := hid (Nat.le_trans hwr HM4.out.2.2.le)
          have HOE := hid (show okE ⟨1 + s, e.n, ⟨v1, e.v.n, e.v.s, e.v.l⟩⟩ from ⟨ok_small (by show -1000 ≤ 1 + s; omega) (by show 1 + s ≤ _; omega), HOK.out.2.1, HOK.out.2.2.1, by show okI v1; exact HOKV.out, HOK.out.2.2.2.2⟩)
          obtain ⟨Ao, co, rfl⟩ := own_form hown
          clear hown hch hev HM3
          by_cases h4 : k + 1 = 400
          · have t4 : ((k : Int) + 1 == 400) = true := by simp; omega
            have H4 := hid h4
            clear h4
            go_wp2_with (at_builtin; go_must (refine app_lit_at W.heap.size (by simp [World.setCell]) elEvent rfl (.tmp 66) (.tmp 68) rfl HOWN.out rfl _ _ 1 1 rfl rfl (by intro u hu; simp at hu; rcases hu with rfl | rfl | rfl | rfl | rfl | rfl <;> rfl) B1.out B2.out B3.out ?_); intro v5 w5 hown5 hg5 hm5 hb5; have HN5 : Hid (OEvs w5 w.heap.size v5 ((l.take (k + 1)).map evM)) := hid (by rw [← take_snoc HE.out, List.map_append]; exact OEvs.snoc (e := evM e) (lv := .slice A3 e.v.l.length c3) HCH.out (by rw [HLEN.out]; exact HOWN.out) hg5 (by rw [HLEN.out]) (by rw [HEV.out]; exact hown5) (by rw [HEV.out]; exact HM4.out.2.1) (Nat.le_trans hwr (Nat.le_succ _)) (by rw [HEV.out]; exact HOE.out)); obtain ⟨A5, c5, rfl⟩ := own_form hown5; have HK5 := hid (Below.trans (HKP.out.trans HM4.out.2.2) hb5); clear hown5 hg5 hm5 hb5)
            go_ret
            exact ⟨⟨_, rfl, by unfold eventsM; rw [← H4.out]; exact HN5.out⟩, HK5.out⟩
          · have t4 : ((k : Int) + 1 == 400) = false := by simp; omega
            have H4 := hid h4
            clear h4
            go_wp2_with (at_builtin; go_must (refine app_lit_at W.heap.size (by simp [World.setCell]) elEvent rfl (.tmp 66) (.tmp 68) rfl HOWN.out rfl _ _ 1 1 rfl rfl (by intro u hu; simp at hu; rcases hu with rfl | rfl | rfl | rfl | rfl | rfl <;> rfl) B1.out B2.out B3.out ?_); intro v5 w5 hown5 hg5 hm5 hb5; have HN5 : Hid (OEvs w5 w.heap.size v5 ((l.take (k + 1)).map evM)) := hid (by rw [← take_snoc HE.out, List.map_append]; exact OEvs.snoc (e := evM e) (lv := .slice A3 e.v.l.length c3) HCH.out (by rw [HLEN.out]; exact HOWN.out) hg5 (by rw [HLEN.out]) (by rw [HEV.out]; exact hown5) (by rw [HEV.out]; exact HM4.out.2.1) (Nat.le_trans hwr (Nat.le_succ _)) (by rw [HEV.out]; exact HOE.out)); obtain ⟨A5, c5, rfl⟩ := own_form hown5; have HK5 := hid (Below.trans (HKP.out.trans HM4.out.2.2) hb5); clear hown5 hg5 hm5 hb5)
            go_roundw
            case rel => exact ⟨k + 1, hlt, by have := H4.out; omega, by simp, HN5.out, HK5.out⟩
            case measure => simp [intOf]; omega
        · have hev : evM e = ⟨1 + s, e.n, ⟨v1, e.v.n, e.v.s, e.v.l⟩⟩ := by
            unfold evM
            rw [HS.out, HV1.out]
            have : vk2 (1 + s) v1 = v1 := by unfold vk2; rw [if_neg (fun h => h.2 (.inr (by simpa using u3)))]
            rw [this]
          have HEV := hid hev
          have HM4 : Hid (EvMid wr wr.heap.size ⟨1 + s, e.n, ⟨v1, e.v.n, e.v.s, e.v.l⟩⟩ (.slice A3 e.v.l.length c3) (W.setCell ⟨wr.heap.size, 0, none⟩ (.int .i64 (1 + s)))) := hid (HM3.out)
          obtain ⟨xs, hown, hch⟩ := HO.out.kp HM4.out.2.2
          rw [HLEN.out] at hown
          have HCH := hid hch; have HOWN := hid hown
          have B1 := hid (show k + 1 ≤ maxLen by unfold maxLen; omega)
          have B2 := hid (show (k + 1) * 72 ≤ 140737488355328 by omega)
          have B3 := hid (Nat.le_trans hwr HM4.out.2.2.le)
          have HOE := hid (show okE ⟨1 + s, e.n, ⟨v1, e.v.n, e.v.s, e.v.l⟩⟩ from ⟨ok_small (by show -1000 ≤ 1 + s; omega) (by show 1 + s ≤ _; omega), HOK.out.2.1, HOK.out.2.2.1, by show okI v1; exact HOKV.out, HOK.out.2.2.2.2⟩)
          obtain ⟨Ao, co, rfl⟩ := own_form hown
          clear hown hch hev HM3
          by_cases h4 : k + 1 = 400
          · have t4 : ((k : Int) + 1 == 400) = true := by simp; omega
            have H4 := hid h4
            clear h4
            go_wp2_with (at_builtin; go_must (refine app_lit_at W.heap.size (by simp [World.setCell]) elEvent rfl (.tmp 66) (.tmp 68) rfl HOWN.out rfl _ _ 1 1 rfl rfl (by intro u hu; simp at hu; rcases hu with rfl | rfl | rfl | rfl | rfl | rfl <;> rfl) B1.out B2.out B3.out ?_); intro v5 w5 hown5 hg5 hm5 hb5; have HN5 : Hid (OEvs w5 w.heap.size v5 ((l.take (k + 1)).map evM)) := hid (by rw [← take_snoc HE.out, List.map_append]; exact OEvs.snoc (e := evM e) (lv := .slice A3 e.v.l.length c3) HCH.out (by rw [HLEN.out]; exact HOWN.out) hg5 (by rw [HLEN.out]) (by rw [HEV.out]; exact hown5) (by rw [HEV.out]; exact HM4.out.2.1) (Nat.le_trans hwr (Nat.le_succ _)) (by rw [HEV.out]; exact HOE.out)); obtain ⟨A5, c5, rfl⟩ := own_form hown5; have HK5 := hid (Below.trans (HKP.out.trans HM4.out.2.2) hb5); clear hown5 hg5 hm5 hb5)
            go_ret
            exact ⟨⟨_, rfl, by unfold eventsM; rw [← H4.out]; exact HN5.out⟩, HK5.out⟩
          · have t4 : ((k : Int) + 1 == 400) = false := by simp; omega
            have H4 := hid h4
            clear h4
            go_wp2_with (at_builtin; go_must (refine app_lit_at W.heap.size (by simp [World.setCell]) elEvent rfl (.tmp 66) (.tmp 68) rfl HOWN.out rfl _ _ 1 1 rfl rfl (by intro u hu; simp at hu; rcases hu with rfl | rfl | rfl | rfl | rfl | rfl <;> rfl) B1.out B2.out B3.out ?_); intro v5 w5 hown5 hg5 hm5 hb5; have HN5 : Hid (OEvs w5 w.heap.size v5 ((l.take (k + 1)).map evM)) := hid (by rw [← take_snoc HE.out, List.map_append]; exact OEvs.snoc (e := evM e) (lv := .slice A3 e.v.l.length c3) HCH.out (by rw [HLEN.out]; exact HOWN.out) hg5 (by rw [HLEN.out]) (by rw [HEV.out]; exact hown5) (by rw [HEV.out]; exact HM4.out.2.1) (Nat.le_trans hwr (Nat.le_succ _)) (by rw [HEV.out]; exact HOE.out)); obtain ⟨A5, c5, rfl⟩ := own_form hown5; have HK5 := hid (Below.trans (HKP.out.trans HM4.out.2.2) hb5); clear hown5 hg5 hm5 hb5)
            go_roundw
            case rel => exact ⟨k + 1, hlt, by have := H4.out; omega, by simp, HN5.out, HK5.out⟩
            case measure => simp [intOf]; omega
        · have hev : evM e = ⟨1 + s, e.n, ⟨1, e.v.n, e.v.s, e.v.l⟩⟩ := by
            unfold evM
            rw [HS.out, HV1.out]
            have : vk2 (1 + s) v1 = 1 := by unfold vk2; rw [if_pos ⟨by simpa using u1, by simp at u2 u3; omega⟩]
            rw [this]
          have HEV := hid hev
          have HM4 : Hid (EvMid wr wr.heap.size ⟨1 + s, e.n, ⟨1, e.v.n, e.v.s, e.v.l⟩⟩ (.slice A3 e.v.l.length c3) ((W.setCell ⟨wr.heap.size, 0, none⟩ (.int .i64 (1 + s))).setCell ⟨wr.heap.size, 2, none⟩ (.int .i64 1))) := hid (HM3.out.setK 1)
          obtain ⟨xs, hown, hch⟩ := HO.out.kp HM4.out.2.2
          rw [HLEN.out] at hown
          have HCH := hid hch; have HOWN := hid hown
          have B1 := hid (show k + 1 ≤ maxLen by unfold maxLen; omega)
          have B2 := hid (show (k + 1) * 72 ≤ 140737488355328 by omega)
          have B3 := hid (Nat.le_trans hwr HM4.out.2.2.le)
          have HOE := hid (show okE ⟨1 + s, e.n, ⟨1, e.v.n, e.v.s, e.v.l⟩⟩ from ⟨ok_small (by show -1000 ≤ 1 + s; omega) (by show 1 + s ≤ _; omega), HOK.out.2.1, HOK.out.2.2.1, by show okI 1; exact ok_small (by omega) (by omega), HOK.out.2.2.2.2⟩)
          obtain ⟨Ao, co, rfl⟩ := own_form hown
          clear hown hch hev HM3
          by_cases h4 : k + 1 = 400
          · have t4 : ((k : Int) + 1 == 400) = true := by simp; omega
            have H4 := hid h4
            clear h4
            go_wp2_with (at_builtin; go_must (refine app_lit_at W.heap.size (by simp [World.setCell]) elEvent rfl (.tmp 66) (.tmp 68) rfl HOWN.out rfl _ _ 1 1 rfl rfl (by intro u hu; simp at hu; rcases hu with rfl | rfl | rfl | rfl | rfl | rfl <;> rfl) B1.out B2.out B3.out ?_); intro v5 w5 hown5 hg5 hm5 hb5; have HN5 : Hid (OEvs w5 w.heap.size v5 ((l.take (k + 1)).map evM)) := hid (by rw [← take_snoc HE.out, List.map_append]; exact OEvs.snoc (e := evM e) (lv := .slice A3 e.v.l.length c3) HCH.out (by rw [HLEN.out]; exact HOWN.out) hg5 (by rw [HLEN.out]) (by rw [HEV.out]; exact hown5) (by rw [HEV.out]; exact HM4.out.2.1) (Nat.le_trans hwr (Nat.le_succ _)) (by rw [HEV.out]; exact HOE.out)); obtain ⟨A5, c5, rfl⟩ := own_form hown5; have HK5 := hid (Below.trans (HKP.out.trans HM4.out.2.2) hb5); clear hown5 hg5 hm5 hb5)
            go_ret
            exact ⟨⟨_, rfl, by unfold eventsM; rw [← H4.out]; exact HN5.out⟩, HK5.out⟩
          · have t4 : ((k : Int) + 1 == 400) = false := by simp; omega
            have H4 := hid h4
            clear h4
            go_wp2_with (at_builtin; go_must (refine app_lit_at W.heap.size (by simp [World.setCell]) elEvent rfl (.tmp 66) (.tmp 68) rfl HOWN.out rfl _ _ 1 1 rfl rfl (by intro u hu; simp at hu; rcases hu with rfl | rfl | rfl | rfl | rfl | rfl <;> rfl) B1.out B2.out B3.out ?_); intro v5 w5 hown5 hg5 hm5 hb5; have HN5 : Hid (OEvs w5 w.heap.size v5 ((l.take (k + 1)).map evM)) := hid (by rw [← take_snoc HE.out, List.map_append]; exact OEvs.snoc (e := evM e) (lv := .slice A3 e.v.l.length c3) HCH.out (by rw [HLEN.out]; exact HOWN.out) hg5 (by rw [HLEN.out]) (by rw [HEV.out]; exact hown5) (by rw [HEV.out]; exact HM4.out.2.1) (Nat.le_trans hwr (Nat.le_succ _)) (by rw [HEV.out]; exact HOE.out)); obtain ⟨A5, c5, rfl⟩ := own_form hown5; have HK5 := hid (Below.trans (HKP.out.trans HM4.out.2.2) hb5); clear hown5 hg5 hm5 hb5)
            go_roundw
            case rel => exact ⟨k + 1, hlt, by have := H4.out; omega, by simp, HN5.out, HK5.out⟩
            case measure => simp [intOf]; omega
    · obtain rfl : k = l.length := by omega
      have i1 : ¬ (l.length : Int) < (l.length : Int) := by omega
      clear ho hkp
      go_wp2
      go_ret
      exact ⟨⟨_, rfl, by have := HO.out; unfold eventsM; rw [List.take_of_length_le (by omega : l.length ≤ 400)]; rwa [List.take_length] at this⟩, HKP.out⟩
end Go.Proofs.Ytiicdknmoakocaa
