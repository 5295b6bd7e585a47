/-
  The law PanicsLast answers true for all lists of events. No condition.
-/
import Derived.SizedLaws
import Derived.Deep.CondSized
import Derived.Test.YtfholconiofgoaaRows
import Derived.Test.YtfholconiofgoaaPanL
import Derived.Test.YtfholconiofgoaaPanB
import Derived.Test.YtfholconiofgoaaPanC
import Derived.Deep.DeepCutAuto
namespace Go.Proofs.Ytfholconiofgoaa.panicsLast
open Go.ChangeShapes Go.WideShapes Go.ChangeAt Go.RowKit
open Go.ChangeMaps (open_string shut_string)
set_option linter.unusedVariables false

theorem own : ownKnob Try.prog.godebug = none := by kernel_rfl
theorem laidOut : laidOutB Try.prog = true := by kernel_rfl


theorem ks_start (w : World) : KS ((w.alloc (.cells #[.slice none 0 0] 23)).alloc (.cells #[.int .i64 0] 3)) w.heap.size (.slice (some ⟨w.heap.size, 0, none⟩) 1 1) (.slice (some ⟨w.heap.size + 1, 0, none⟩) 1 1) [([], .slice none 0 0)] [0] := by
  have h1 := blk_old (blk_new w (.cells #[.slice none 0 0] 23)) (.cells #[.int .i64 0] 3)
  have h2 := blk_new2 w (.cells #[.slice none 0 0] 23) (.cells #[.int .i64 0] 3)
  refine ⟨rowLit h1 (Nat.le_refl _) rfl (by decide), rowLit h2 (by omega) rfl (by decide), fun x hx => ?_, List.pairwise_singleton _ _, fun x hx => ?_⟩
  · rw [List.mem_singleton] at hx; subst hx; exact OwnI.nil _ _
  · rw [List.mem_singleton] at hx; subst hx; intro g hc; cases hc
theorem evK_len (K : List (List Int)) (st : List Int) (e : EventM) : (evK K st e).length = K.length := by
  unfold evK
  split
  · cases st with
    | nil => rfl
    | cons a b => rw [List.length_modify]
  · rfl
theorem LK_sg {R : PlM} {K : List (List Int)} {st : List Int} (h : Lk R K st) (hg : Gr 400 R) : Sg 500 K st := h.sg (by have := hg.n1; omega) (by have := hg.fl; omega)
theorem evK_sg {k : Nat} {K : List (List Int)} {st : List Int} (h : Sg k K st) (e : EventM) : Sg k (evK K st e) st := ⟨fun x hx => by rw [evK_len]; exact h.rng x hx, by rw [evK_len]; exact h.kl, h.sl⟩
theorem modify_set {α : Type} {f : α → α} : ∀ {l : List α} {i : Nat} {a : α}, l[i]? = some a → l.modify i f = l.set i (f a)
  | [], i, a, h => by simp at h
  | x :: l, 0, a, h => by simp at h; subst h; simp
  | x :: l, i + 1, a, h => by
    rw [List.getElem?_cons_succ] at h
    rw [List.modify_succ_cons, List.set_cons_succ, modify_set h]
theorem elRowI : El Try.prog 49 23 (.slice none 0 0) 1 24 := El.mk_ Try.underlying49 (by kernel_rfl) rfl (by omega)
theorem rowLe {w : World} {base size n : Nat} {e : TypeId} {v : Value} {xs : List Value} (h : w.ownsRow base e size v n xs) : n ≤ maxLen := by
  rcases h.2 with ⟨_, h2⟩ | ⟨g', cap', cur, hv, hb, hg, hnc, hm, _⟩
  · omega
  · omega
theorem ds_last {ds : List Int} {x : Int} (h : ds.getLast? = some x) : ∃ m, ds.length = m + 1 ∧ ds[m]? = some x ∧ ds.dropLast = ds.take m := by
  cases hd : ds.reverse with
  | nil => rw [List.reverse_eq_nil_iff] at hd; subst hd; cases h
  | cons a l =>
    have e : ds = l.reverse ++ [a] := by rw [← List.reverse_reverse ds, hd, List.reverse_cons]
    subst e
    rw [List.getLast?_append, List.getLast?_singleton] at h
    injection h with h
    subst h
    refine ⟨l.length, by simp, by simp, ?_⟩
    rw [List.dropLast_concat]; simp
theorem last_out {w0 u : World} {base T k kn : Nat} {kv sv : Value} {L : List PlM} {L4 : List (List Int × Value)} {st4 : List Int} {R : PlM} (hkn : k + 1 = kn) (hlt : k < T) (h1 : KS u base kv sv L4 st4.reverse) (h2 : L[kn]? = some R) (h3 : Lk R (L4.map Prod.fst) st4) (hk : Kp w0 u) :
    (∃ (k' : Nat) (L2 : List (List Int × Value)) (st : List Int) (R : PlM), k' ≤ T ∧ Value.int .i64 (kn : Int) = .int .i64 (k' : Int) ∧ KS u base kv sv L2 st.reverse ∧ L[k']? = some R ∧ Lk R (L2.map Prod.fst) st ∧ Kp w0 u) ∧ T - (intOf (.int .i64 (kn : Int))).toNat < T - (intOf (.int .i64 (k : Int))).toNat := by
  subst hkn
  exact ⟨⟨k + 1, L4, st4, R, hlt, rfl, h1, h2, h3, hk⟩, by simp only [intOf, Int.toNat_natCast]; omega⟩
theorem last_in {wc u : World} {base n m k : Nat} {kv sv : Value} {L4 : List (List Int × Value)} {st4 K0 : List Int} {K : List (List Int)} {Tk : List TellM} (hw : wrap64 ((m : Int) + 1) = ((m + 1 : Nat) : Int)) (hlm : m < n) (h1 : KS u base kv sv L4 st4.reverse) (h2 : simL K K0 (Tk.take (m + 1)) = some (L4.map Prod.fst, st4)) (h3 : Sg (k + m + 1) (L4.map Prod.fst) st4) (hk : Kp wc u) :
    (∃ (m' : Nat) (L' : List (List Int × Value)) (st' : List Int), m' ≤ n ∧ Value.int .i64 (wrap64 ((m : Int) + 1)) = .int .i64 (m' : Int) ∧ KS u base kv sv L' st'.reverse ∧ simL K K0 (Tk.take m') = some (L'.map Prod.fst, st') ∧ Sg (k + m') (L'.map Prod.fst) st' ∧ Kp wc u) ∧ n - (intOf (.int .i64 (wrap64 ((m : Int) + 1)))).toNat < n - (intOf (.int .i64 (m : Int))).toNat := by
  rw [hw]
  exact ⟨⟨m + 1, L4, st4, hlm, rfl, h1, h2, h3, hk⟩, by simp only [intOf, Int.toNat_natCast]; omega⟩
set_option maxRecDepth 20000 in
set_option maxHeartbeats 8000000 in
theorem walk (v0 : Value) (a0 : List EventM) (w : World) (w0 : RdEventsB w v0 a0) :
    Calls Try.prog 4 #[v0] w fun e w' => e = .returned (.bool true) ∧ Kp w w' := by
  have HL := hid (show RdL CeEvent 6 w v0 a0 from w0.1)
  obtain ⟨A, c, rfl, hlc⟩ := w0.1.form
  clear w0
  go_enter Try.func4, Try.ntmps4
  go_wp2_with fail
  refine (events_any _ a0 _ HL.out).mono ?_
  rintro e w1 ⟨⟨v1, rfl, h1⟩, hk1⟩
  have HOK := hid (eventsM_ok a0)
  have HML := hid (eventsM_len a0)
  generalize eventsM a0 = M at h1 HOK HML
  obtain ⟨A0, c0, rfl, hc0⟩ := h1.rd.form
  have H1 := hid h1.rd
  go_wp2_with fail
  refine (played_any _ M _ H1.out HOK.out HML.out).mono ?_
  rintro e w2 ⟨⟨vs, va, rfl, h2, h3⟩, hk2⟩
  have HG := hid (all_good HML.out)
  have HRT := hid (round_at M st0)
  have HTC := hid (all_tlen M st0 0 st0_gr rfl)
  have HTL := hid (Nat.le_trans (all_le M st0) HML.out)
  have HTM := hid (all_le M st0)
  have HEV := hid (H1.out.kp CeEvent.kp hk2)
  have HL0 := hid (show (st0 :: statesM st0 M)[0]? = some st0 from rfl)
  generalize st0 :: statesM st0 M = L at HG HRT HL0 h2
  generalize allM st0 M = T at HRT HTC HTL HTM h3
  obtain ⟨As, cs, rfl, hLc⟩ := h2.rd.form
  obtain ⟨At, ct, rfl, hTc⟩ := h3.rd.form
  have HS := hid h2; have HTS := hid h3; have HK := hid (hk1.trans hk2)
  have HKS := hid (ks_start w2)
  have HK2 := hid (show Kp w2 ((w2.alloc (.cells #[.slice none 0 0] 23)).alloc (.cells #[.int .i64 0] 3)) from ((Kp.refl _).alloc _).alloc _)
  clear h1 h2 h3 hk1 hk2 hLc hTc hc0 hlc HL H1 HOK
  go_wp2
  generalize (w2.alloc (.cells #[.slice none 0 0] 23)).alloc (.cells #[.int .i64 0] 3) = W3 at HKS HK2 ⊢
  go_loopw [6, 7, 8] (fun kv sv i wr => ∃ (k : Nat) (L2 : List (List Int × Value)) (st : List Int) (R : PlM), k ≤ T.length ∧ i = .int .i64 (k : Int) ∧ KS wr w2.heap.size kv sv L2 st.reverse ∧ L[k]? = some R ∧ Lk R (L2.map Prod.fst) st ∧ Kp w2 wr) (fun _ _ i _ => T.length - (intOf i).toNat)
  case atStart => exact ⟨0, [([], .slice none 0 0)], [0], st0, by omega, rfl, HKS.out, HL0.out, st0_lk, HK2.out⟩
  case round =>
    obtain ⟨k, L2, st, R, hk, rfl, hks, hLk, hlk, hkp⟩ := hrel
    have HKR := hid hkp
    by_cases hlt : k < T.length
    · have i1 : (k : Int) < (T.length : Int) := by omega
      have i5 : (k : Int) < (M.length : Int) := by have := HTM.out; omega
      have HWK := hid (wrap_up (n := k) (by have := HTL.out; omega))
      obtain ⟨Tk, hTk⟩ : ∃ Tk, T[k]? = some Tk := ⟨_, List.getElem?_eq_getElem hlt⟩
      obtain ⟨R', e, hR, he, hen, hTe, hnx⟩ := HRT.out k Tk hTk
      obtain rfl : R = R' := Option.some.inj (hLk.symm.trans hR)
      obtain ⟨hG, hT0, hgr⟩ := HG.out R (List.mem_of_getElem? hR)
      have hgo := event_go hlk hT0 (hG.runs hen).ne e
      rw [← hTe] at hgo
      obtain ⟨ev, eo, rfl, hev, lvv, e0, e1, e2, e3, e4, e5, _⟩ := at_event (HEV.out.kp CeEvent.kp hkp) he
      -- the rows
      have hst : st = R.fr.map (·.id) := hlk.st
      obtain ⟨f, r, hf⟩ : ∃ f r, R.fr = f :: r := by
        have hne := (hG.runs hen).ne
        cases hp : R.fr with
        | nil => exact absurd hp hne
        | cons f r => exact ⟨f, r, rfl⟩
      have hst2 : st = f.id :: r.map (·.id) := by rw [hst, hf]; rfl
      have hkd := hlk.kd f (by rw [hf]; exact List.mem_cons_self ..)
      have hkl : 0 < L2.length := by have := (List.getElem?_eq_some_iff.1 hkd).1; rw [List.length_map] at this; omega
      have hsl : 0 < st.reverse.length := by rw [List.length_reverse, hst2]; simp
      obtain ⟨kg, kc, e9, _⟩ := rowSome hks.row hkl
      subst e9
      obtain ⟨sg, sc, e8, _⟩ := rowSome hks.stk hsl
      subst e8
      have HKS := hid hks; have HGO := hid hgo; have HLK := hid hlk; have HGR := hid hgr; have HTE := hid hTe; have HNX := hid hnx; have HTK := hid hTk; have HE := hid he
      clear hks hgo hlk hgr hTe hnx hR hLk hT0 hG hk hTk he hst hkp
      go_upto_if 38 with fail
      go_cut [9] from 27 to 176 (fun _ wx => ∃ L3, KS wx w2.heap.size (.slice (some ⟨kg, 0, none⟩) L2.length kc) (.slice (some ⟨sg, 0, none⟩) st.reverse.length sc) L3 st.reverse ∧ L3.map Prod.fst = evK (L2.map Prod.fst) st e ∧ Kp w2 wx)
      case first =>
        by_cases h3 : e.kind = 3
        · have t3 : (e.kind == 3) = true := by simp [h3]
          have hdk := HKS.out
          obtain ⟨d, hd⟩ := kept_at hkd
          have hrg := HLK.out.rng f (by rw [hf]; exact List.mem_cons_self ..)
          obtain ⟨i, hi⟩ : ∃ i : Nat, f.id = (i : Int) := ⟨f.id.toNat, by omega⟩
          rw [hi, Int.toNat_natCast] at hd
          obtain ⟨kb, kc4, e7, hkb, y0, _, hdo⟩ := hdk.at_ hd
          obtain ⟨Ad, cd, rfl⟩ := own_form hdo
          have hsk := hdk
          rw [hst2] at hsk
          obtain ⟨sb, sc4, e8, hsb, x1, hle⟩ := hsk.top
          rw [hi] at x1
          obtain ⟨ns, hns⟩ : ∃ ns, st.reverse.length = ns := ⟨_, rfl⟩
          have HNQ := hid hns
          have hnr : ns = (r.map (·.id)).length + 1 := by rw [← hns, hst2]; simp
          obtain ⟨m1, hm1⟩ : ∃ m1, (r.map (·.id)).length = m1 := ⟨_, rfl⟩
          rw [hm1] at x1 hnr e8
          rw [← hst2] at e8
          cases e7
          injection e8 with e8 e9 e10
          injection e8 with e8
          injection e8 with e8 _ _
          subst e8
          have hil : i < L2.length := (List.getElem?_eq_some_iff.1 hd).1
          have hbase : w2.heap.size ≤ wr.heap.size := HKR.out.le
          have hfd : f.defers.length ≤ 400 := HGR.out.df f (by rw [hf]; exact List.mem_cons_self ..)
          have hev3 := hev
          have HEVK := hid (show evK (L2.map Prod.fst) st e = (L2.map Prod.fst).set i (f.defers ++ [e.n]) by
            unfold evK
            rw [if_pos h3, hst2]
            dsimp only
            rw [hi, Int.toNat_natCast]; exact modify_set (by rw [List.getElem?_map, hd]; rfl))
          have h9 : (r.map (·.id)).length + 1 = R.fr.length := by rw [hf]; simp
          have h10 := HGR.out.fl
          have j1 : IntKind.i64.wrap ((ns : Int) - 1) = (m1 : Int) := by rw [IntKind.wrap_i64]; omega
          clear h9 h10
          have j2 : (m1 : Int) < (ns : Int) := by omega
          have j5 : (i : Int) < (L2.length : Int) := by omega
          rw [hns] at HKS ⊢
          have Y0 := hid y0; have HKB := hid hkb; have HEV2 := hid hev; have E1 := hid e1; have HDO := hid hdo; have HD := hid hd; have HBA := hid hbase; have HIL := hid hil
          have BD := hid (show ∀ k, (Value.slice Ad f.defers.length cd).ownBlock = some k → k < wr.heap.size from fun k hk => (World.ownsRow.lt hdo k hk).2)
          have B1 := hid (show f.defers.length + 1 ≤ maxLen by unfold maxLen; omega)
          have B2 := hid (show (f.defers.length + 1) * 8 ≤ 140737488355328 by omega)
          clear hdk hd hrg hi y0 hdo hsk hle hnr hm1 hns hil hbase hfd hev3 e1 e2 e3 e4 e5 e9 e10 hkb hsb hst2 hf hkd hkl hsl h3
          go_upto_region 12 with fail
          clear e0 x1
          generalize (e.kind == 3) = bz
          refine wp_region_phase [12, 14] [(0, 1), (0, 1), (0, 0), (0, 0), (0, 0), (0, 0), (0, 0), (0, 0), (0, 0), (0, 0), (0, 0), (0, 0), (0, 0), (0, 1), (0, 0)] (KpF wr.heap.size) [[], [], [], [], [2, 3], [4], [], [], [6, 7], [8], [9], [10], [5, 11], [0, 1], [12, 13]]
            (fun (p : Nat) (x : Nat → Value) (u : World) => match p with | 0 => Kp wr u | 1 => wr.grownBy u (Value.slice Ad f.defers.length cd).ownBlock ∧ Moved wr (.slice Ad f.defers.length cd) (x 12) ∧ OwnI u w2.heap.size (x 12) (f.defers ++ [e.n]) ∧ Below w2.heap.size wr u | _ => (∃ L3, KS u w2.heap.size (.slice (some ⟨kg, 0, none⟩) L2.length kc) (.slice (some ⟨sg, 0, none⟩) ns sc) L3 st.reverse ∧ L3.map Prod.fst = evK (L2.map Prod.fst) st e) ∧ Below w2.heap.size wr u)
            [fun (y : Value) (u : World) => y = (.slice (some ⟨kg, 0, none⟩) L2.length kc : Value),
             fun (y : Value) (u : World) => y = (.int .i64 (i : Int) : Value),
             fun (y : Value) (u : World) => y = (.slice (some ⟨kg, 0, none⟩) L2.length kc : Value),
             fun (y : Value) (u : World) => y = (.int .i64 (i : Int) : Value),
             fun (y : Value) (u : World) => y = (.pointer (some ⟨kg, i, none⟩) : Value),
             fun (y : Value) (u : World) => y = (.slice Ad f.defers.length cd : Value),
             fun (y : Value) (u : World) => y = (.slice (some ⟨ev, eo, none⟩) M.length c0 : Value),
             fun (y : Value) (u : World) => y = (.int .i64 (k : Int) : Value),
             fun (y : Value) (u : World) => y = (.pointer (some ⟨ev, eo + k * 6, none⟩) : Value),
             fun (y : Value) (u : World) => y = (.pointer (some ⟨ev, eo + k * 6 + 1, none⟩) : Value),
             fun (y : Value) (u : World) => y = (.int .i64 e.n : Value),
             fun (y : Value) (u : World) => LitAt wr.heap.size 3 #[.int .i64 e.n] y u,
             fun (y : Value) (u : World) => True,
             fun (y : Value) (u : World) => y = (.pointer (some ⟨kg, i, none⟩) : Value),
             fun (y : Value) (u : World) => True]
            (by kernel_rfl) (by kernel_rfl) (by kernel_rfl) (by kernel_rfl) (by kernel_rfl) (by kernel_rfl) (fun _ _ hk => KpF.of_kp hk) ((Kp.refl wr).drew) ?hKb ?hXb ⟨fun _ _ _ _ h => h, fun _ _ _ _ h => h, fun _ _ _ _ h => h, fun _ _ _ _ h => h, fun _ _ _ _ h => h, fun _ _ _ _ h => h, fun _ _ _ _ h => h, fun _ _ _ _ h => h, fun _ _ _ _ h => h, fun _ _ _ _ h => h, fun _ _ _ _ h => h, fun _ _ _ hk h => h.keep hk, fun _ _ _ _ _ => trivial, fun _ _ _ _ h => h, fun _ _ _ _ _ => trivial, trivial⟩ ⟨?sb0, ?sb1, ?sb2, ?sb3, ?sb4, ?sb5, ?sb6, ?sb7, ?sb8, ?sb9, ?sb10, ?sb11, ?sb12, ?sb13, ?sb14, trivial⟩ ?hEb
          case hKb =>
            intro p x w w' hk h
            rcases p with _ | _ | p
            · exact h.trans hk
            · exact ⟨h.1.trans (grown_kp hk _), h.2.1, ownsRow_keep h.2.2.1 hk, Below.trans h.2.2.2 (Below.mono hk (Nat.le_trans HBA.out h.2.2.2.size))⟩
            · exact ⟨by obtain ⟨L3, h1, h2⟩ := h.1; exact ⟨L3, h1.kp hk, h2⟩, Below.trans h.2 (Below.mono hk (Nat.le_trans HBA.out h.2.size))⟩
          case hXb =>
            intro p x i v w hi h
            have e0 : upd x i v 12 = x 12 := if_neg (fun hh => hi (by rw [← hh]; decide))
            have e1 : upd x i v 14 = x 14 := if_neg (fun hh => hi (by rw [← hh]; decide))
            rcases p with _ | _ | p
            · first | exact h | (simp only [e0, e1]; exact h)
            · first | exact h | (simp only [e0, e1]; exact h)
            · first | exact h | (simp only [e0, e1]; exact h)
          case sb0 =>
            refine OpStepQ.off 0 1 (by kernel_rfl) (by kernel_rfl) ?_
            intro x u p hp hg hd K hK
            clear hd
            refine ⟨?_⟩
            simp only [putsFrom, Act.put, List.setIfInBounds_toArray, List.set_cons_zero, List.set_cons_succ, Nat.reduceAdd] at hK ⊢
            go_simp
            exact hK.out _ _ (Kp.refl _) rfl
          case sb1 =>
            refine OpStepQ.off 0 1 (by kernel_rfl) (by kernel_rfl) ?_
            intro x u p hp hg hd K hK
            clear hd
            refine ⟨?_⟩
            simp only [putsFrom, Act.put, List.setIfInBounds_toArray, List.set_cons_zero, List.set_cons_succ, Nat.reduceAdd] at hK ⊢
            go_simp
            exact hK.out _ _ (Kp.refl _) rfl
          case sb2 =>
            refine OpStepQ.off 0 0 (by kernel_rfl) (by kernel_rfl) ?_
            intro x u p hp hg hd K hK
            obtain rfl : p = 0 := by omega
            change Kp wr u at hg
            clear hd
            refine ⟨?_⟩
            simp only [putsFrom, Act.put, List.setIfInBounds_toArray, List.set_cons_zero, List.set_cons_succ, Nat.reduceAdd] at hK ⊢
            go_simp
            exact hK.out _ _ (Kp.refl _) rfl
          case sb3 =>
            refine OpStepQ.off 0 0 (by kernel_rfl) (by kernel_rfl) ?_
            intro x u p hp hg hd K hK
            obtain rfl : p = 0 := by omega
            change Kp wr u at hg
            clear hd
            refine ⟨?_⟩
            simp only [putsFrom, Act.put, List.setIfInBounds_toArray, List.set_cons_zero, List.set_cons_succ, Nat.reduceAdd] at hK ⊢
            go_simp
            exact hK.out _ _ (Kp.refl _) rfl
          case sb4 =>
            refine OpStepQ.off 0 0 (by kernel_rfl) (by kernel_rfl) ?_
            intro x u p hp hg hd K hK
            obtain rfl : p = 0 := by omega
            change Kp wr u at hg
            have d2 : (x 2) = .slice (some ⟨kg, 0, none⟩) L2.length kc := And.left hd
            have d3 : (x 3) = .int .i64 (i : Int) := And.left (And.right hd)
            clear hd
            refine ⟨?_⟩
            simp only [putsFrom, Act.put, List.setIfInBounds_toArray, List.set_cons_zero, List.set_cons_succ, Nat.reduceAdd, d2, d3] at hK ⊢
            go_simp
            exact hK.out _ _ (Kp.refl _) rfl
          case sb5 =>
            refine OpStepQ.off 0 0 (by kernel_rfl) (by kernel_rfl) ?_
            intro x u p hp hg hd K hK
            obtain rfl : p = 0 := by omega
            change Kp wr u at hg
            have d4 : (x 4) = .pointer (some ⟨kg, i, none⟩) := And.left hd
            clear hd
            have q9 := cell_kp hg HKB.out Y0.out
            refine ⟨?_⟩
            simp only [putsFrom, Act.put, List.setIfInBounds_toArray, List.set_cons_zero, List.set_cons_succ, Nat.reduceAdd, d4] at hK ⊢
            go_simp
            exact hK.out _ _ (Kp.refl _) rfl
          case sb6 =>
            refine OpStepQ.off 0 0 (by kernel_rfl) (by kernel_rfl) ?_
            intro x u p hp hg hd K hK
            obtain rfl : p = 0 := by omega
            change Kp wr u at hg
            clear hd
            refine ⟨?_⟩
            simp only [putsFrom, Act.put, List.setIfInBounds_toArray, List.set_cons_zero, List.set_cons_succ, Nat.reduceAdd] at hK ⊢
            go_simp
            exact hK.out _ _ (Kp.refl _) rfl
          case sb7 =>
            refine OpStepQ.off 0 0 (by kernel_rfl) (by kernel_rfl) ?_
            intro x u p hp hg hd K hK
            obtain rfl : p = 0 := by omega
            change Kp wr u at hg
            clear hd
            refine ⟨?_⟩
            simp only [putsFrom, Act.put, List.setIfInBounds_toArray, List.set_cons_zero, List.set_cons_succ, Nat.reduceAdd] at hK ⊢
            go_simp
            exact hK.out _ _ (Kp.refl _) rfl
          case sb8 =>
            refine OpStepQ.off 0 0 (by kernel_rfl) (by kernel_rfl) ?_
            intro x u p hp hg hd K hK
            obtain rfl : p = 0 := by omega
            change Kp wr u at hg
            have d6 : (x 6) = .slice (some ⟨ev, eo, none⟩) M.length c0 := And.left hd
            have d7 : (x 7) = .int .i64 (k : Int) := And.left (And.right hd)
            clear hd
            refine ⟨?_⟩
            simp only [putsFrom, Act.put, List.setIfInBounds_toArray, List.set_cons_zero, List.set_cons_succ, Nat.reduceAdd, d6, d7] at hK ⊢
            go_simp
            exact hK.out _ _ (Kp.refl _) rfl
          case sb9 =>
            refine OpStepQ.off 0 0 (by kernel_rfl) (by kernel_rfl) ?_
            intro x u p hp hg hd K hK
            obtain rfl : p = 0 := by omega
            change Kp wr u at hg
            have d8 : (x 8) = .pointer (some ⟨ev, eo + k * 6, none⟩) := And.left hd
            clear hd
            refine ⟨?_⟩
            simp only [putsFrom, Act.put, List.setIfInBounds_toArray, List.set_cons_zero, List.set_cons_succ, Nat.reduceAdd, d8] at hK ⊢
            go_simp
            exact hK.out _ _ (Kp.refl _) rfl
          case sb10 =>
            refine OpStepQ.off 0 0 (by kernel_rfl) (by kernel_rfl) ?_
            intro x u p hp hg hd K hK
            obtain rfl : p = 0 := by omega
            change Kp wr u at hg
            have d9 : (x 9) = .pointer (some ⟨ev, eo + k * 6 + 1, none⟩) := And.left hd
            clear hd
            have q9 := cell_kp hg HEV2.out E1.out
            refine ⟨?_⟩
            simp only [putsFrom, Act.put, List.setIfInBounds_toArray, List.set_cons_zero, List.set_cons_succ, Nat.reduceAdd, d9] at hK ⊢
            go_simp
            exact hK.out _ _ (Kp.refl _) rfl
          case sb11 =>
            refine OpStepQ.off 0 0 (by kernel_rfl) (by kernel_rfl) ?_
            intro x u p hp hg hd K hK
            obtain rfl : p = 0 := by omega
            change Kp wr u at hg
            have d10 : (x 10) = .int .i64 e.n := And.left hd
            clear hd
            refine ⟨?_⟩
            simp only [putsFrom, Act.put, List.setIfInBounds_toArray, List.set_cons_zero, List.set_cons_succ, Nat.reduceAdd, d10] at hK ⊢
            go_simp
            exact hK.out _ _ ((Kp.refl _).alloc _) ⟨_, rfl, hg.le, blk_new _ _⟩
          case sb12 =>
            refine OpStepQ.on 0 (by kernel_rfl) (by kernel_rfl) ?_
            intro x u hg hd K hK
            change Kp wr u at hg
            have d5 : (x 5) = .slice Ad f.defers.length cd := And.left hd
            have d11 : LitAt wr.heap.size 3 #[.int .i64 e.n] (x 11) u := And.left (And.right hd)
            clear hd
            obtain ⟨b, e6, hb6, hlit⟩ := d11
            have hown : u.ownsRow w2.heap.size 3 1 (.slice Ad f.defers.length cd) f.defers.length (f.defers.map intV) := ownsRow_keep HDO.out hg
            refine ⟨?_⟩
            simp only [putsFrom, Act.put, List.setIfInBounds_toArray, List.set_cons_zero, List.set_cons_succ, Nat.reduceAdd, d5, e6] at hK ⊢
            rw [if_pos (by simp [Region.wanted])]
            refine wp_appP elInt (.tmp 50) (.tmp 56) (by rfl) hown (by rfl) [.int .i64 e.n] _ 1 1 (by rfl) rfl (fun _ => ⟨_, rfl, lit_src hlit⟩) (by intro z hz; simp at hz; subst hz; rfl) B1.out B2.out (Nat.le_trans HBA.out hg.le) ?_
            intro v' w' G1 G2 G3 G4
            refine hK.out v' w' (KpF.of_grown G2 BD.out) ⟨(grown_kp hg _).trans G2, ?_, ?_, Below.trans (Below.mono hg HBA.out) G4⟩ trivial
            · rcases G3 with h3 | ⟨k, h3, h4⟩
              · exact .inl h3
              · exact .inr ⟨k, h3, Nat.le_trans hg.le h4⟩
            · unfold OwnI; rw [List.map_append, List.length_append]; exact G1
          case sb13 =>
            refine OpStepQ.off 0 1 (by kernel_rfl) (by kernel_rfl) ?_
            intro x u p hp hg hd K hK
            have d0 : (x 0) = .slice (some ⟨kg, 0, none⟩) L2.length kc := And.left hd
            have d1 : (x 1) = .int .i64 (i : Int) := And.left (And.right hd)
            clear hd
            refine ⟨?_⟩
            simp only [putsFrom, Act.put, List.setIfInBounds_toArray, List.set_cons_zero, List.set_cons_succ, Nat.reduceAdd, d0, d1] at hK ⊢
            go_simp
            exact hK.out _ _ (Kp.refl _) rfl
          case sb14 =>
            refine OpStepQ.on 1 (by kernel_rfl) (by kernel_rfl) ?_
            intro x u hg hd K hK
            change wr.grownBy u (Value.slice Ad f.defers.length cd).ownBlock ∧ Moved wr (.slice Ad f.defers.length cd) (x 12) ∧ OwnI u w2.heap.size (x 12) (f.defers ++ [e.n]) ∧ Below w2.heap.size wr u at hg
            have d13 : (x 13) = .pointer (some ⟨kg, i, none⟩) := And.left (And.right hd)
            clear hd
            obtain ⟨hg1', hg2', hg3', hg4'⟩ := hg
            have hrow := ownsRow_touch (by decide) HKS.out.row (Touch.of_grown HDO.out hg1')
            obtain ⟨q9, qf⟩ := rowAt hrow (show i < L2.length * 1 by have := HIL.out; omega)
            rw [List.getElem?_map, HD.out] at q9
            replace q9 : u.cell? ⟨kg, i, none⟩ = some (.slice Ad f.defers.length cd) := q9
            have HP2 := hid (HKS.out.put HD.out hg1' hg2' hg3')
            obtain ⟨A7, c7, e7⟩ := own_form hg3'
            rw [show (f.defers ++ [e.n]).length = f.defers.length + 1 by simp] at e7
            have e7' := hid e7
            have HG4 := hid hg4'
            have HGE := hid (rowGe hrow)
            clear hg1' hg2' hg3' hg4' hrow
            refine ⟨?_⟩
            simp only [putsFrom, Act.put, List.setIfInBounds_toArray, List.set_cons_zero, List.set_cons_succ, Nat.reduceAdd, d13, e7] at hK ⊢
            go_simp
            rw [e7'.out] at HP2
            exact hK.out undef _ (KpF.setCell (Nat.lt_of_lt_of_le HKB.out (Nat.le_refl _)) _) ⟨⟨_, HP2.out, by rw [List.map_set, HEVK.out]⟩, HG4.out.setCell HGE.out.1 _⟩ trivial
          intro x u hg he
          have d0 : (x 0) = .slice (some ⟨kg, 0, none⟩) L2.length kc := And.left he
          have d1 : (x 1) = .int .i64 (i : Int) := And.left (And.right he)
          have d2 : (x 2) = .slice (some ⟨kg, 0, none⟩) L2.length kc := And.left (And.right (And.right he))
          have d3 : (x 3) = .int .i64 (i : Int) := And.left (And.right (And.right (And.right he)))
          have d4 : (x 4) = .pointer (some ⟨kg, i, none⟩) := And.left (And.right (And.right (And.right (And.right he))))
          have d5 : (x 5) = .slice Ad f.defers.length cd := And.left (And.right (And.right (And.right (And.right (And.right he)))))
          have d6 : (x 6) = .slice (some ⟨ev, eo, none⟩) M.length c0 := And.left (And.right (And.right (And.right (And.right (And.right (And.right he))))))
          have d7 : (x 7) = .int .i64 (k : Int) := And.left (And.right (And.right (And.right (And.right (And.right (And.right (And.right he)))))))
          have d8 : (x 8) = .pointer (some ⟨ev, eo + k * 6, none⟩) := And.left (And.right (And.right (And.right (And.right (And.right (And.right (And.right (And.right he))))))))
          have d9 : (x 9) = .pointer (some ⟨ev, eo + k * 6 + 1, none⟩) := And.left (And.right (And.right (And.right (And.right (And.right (And.right (And.right (And.right (And.right he)))))))))
          have d10 : (x 10) = .int .i64 e.n := And.left (And.right (And.right (And.right (And.right (And.right (And.right (And.right (And.right (And.right (And.right he))))))))))
          have d11 : LitAt wr.heap.size 3 #[.int .i64 e.n] (x 11) u := And.left (And.right (And.right (And.right (And.right (And.right (And.right (And.right (And.right (And.right (And.right (And.right he)))))))))))
          have d13 : (x 13) = .pointer (some ⟨kg, i, none⟩) := And.left (And.right (And.right (And.right (And.right (And.right (And.right (And.right (And.right (And.right (And.right (And.right (And.right (And.right he)))))))))))))
          clear he
          change (∃ L3, KS u w2.heap.size (.slice (some ⟨kg, 0, none⟩) L2.length kc) (.slice (some ⟨sg, 0, none⟩) ns sc) L3 st.reverse ∧ L3.map Prod.fst = evK (L2.map Prod.fst) st e) ∧ Below w2.heap.size wr u at hg
          refine ⟨?_⟩
          simp only [putsFrom, Act.put, List.setIfInBounds_toArray, List.set_cons_zero, List.set_cons_succ, Nat.reduceAdd, d0, d1, d2, d3, d4, d5, d6, d7, d8, d9, d10, d13]
          clear d0 d1 d2 d3 d4 d5 d6 d7 d8 d9 d10 d13
          have HG := hid hg
          clear hg
          go_wp2_with fail
          have hns := HNQ.out
          clear HNQ
          subst hns
          go_meet
          obtain ⟨⟨L3, hL3, hL4⟩, hbw⟩ := HG.out
          exact ⟨L3, hL3, hL4, Below.trans HKR.out (Below.mono hbw (Nat.le_refl _))⟩
        · have t3 : (e.kind == 3) = false := by simp [h3]
          go_wp2_with fail
          go_meet
          exact ⟨L2, HKS.out, by unfold evK; rw [if_neg h3], HKR.out⟩
      case rest =>
        obtain ⟨L3, hks3, hL3, hk3⟩ := hcut
        have HL3 := hid hL3
        obtain ⟨b2, off2, rfl, hb2, tv, x0, htd⟩ := at_tds HTS.out HTK.out
        have x0 := cell_kp hk3 hb2 x0
        obtain ⟨A4, c4, rfl, _⟩ := htd.len
        have HTD := hid htd
        have HTB := hid (HTC.out Tk (List.mem_of_getElem? HTK.out))
        have HSG := hid (evK_sg (LK_sg HLK.out HGR.out) e)
        have HKS3 := hid hks3; have HK3 := hid hk3
        have hkn : L3.length = L2.length := by have h := congrArg List.length hL3; rw [List.length_map, evK_len, List.length_map] at h; exact h
        rw [← hkn] at hks3
        clear htd hL3 hks3 hk3 e0 e1 e2 e3 e4 e5
        go_wp2
        go_loopw [6, 7, 64] (fun kv sv j wq => ∃ (m : Nat) (L4 : List (List Int × Value)) (st4 : List Int), m ≤ Tk.length ∧ j = .int .i64 (m : Int) ∧ KS wq w2.heap.size kv sv L4 st4.reverse ∧ simL (evK (L2.map Prod.fst) st e) st (Tk.take m) = some (L4.map Prod.fst, st4) ∧ Sg (500 + m) (L4.map Prod.fst) st4 ∧ Kp w2 wq) (fun _ _ j _ => Tk.length - (intOf j).toNat)
        case atStart => exact ⟨0, L3, st, by omega, rfl, HKS3.out, by rw [HL3.out]; rfl, by rw [HL3.out]; exact HSG.out, HK3.out⟩
        case round =>
          obtain ⟨m, L4, st4, hm, rfl, hks4, hsim, hsg4, hkq⟩ := hrel
          have HKQ := hid hkq
          by_cases hlm : m < Tk.length
          · have i2 : (m : Int) < (Tk.length : Int) := by omega
            have HWM := hid (wrap_up (n := m) (by have := HTB.out; omega))
            obtain ⟨t, ht⟩ : ∃ t, Tk[m]? = some t := ⟨_, List.getElem?_eq_getElem hlm⟩
            obtain ⟨b3, off3, rfl, hb3, A5, c5, z0, z1, z2, z3, z4, z5, z6, _⟩ := at_td (HTD.out.kp hkq) ht
            obtain ⟨Kf, stf, hgo1, hgo2⟩ := HGO.out
            obtain ⟨K5, st5, hT5, hS5⟩ := simL_at hgo1 ht hsim
            have HS5 := hid hS5; have HSG5 := hid (simT_sg hT5 hsg4); have SGX := hid hsg4; have HKS4 := hid hks4; have HT5 := hid hT5
            clear hgo1 hgo2 hS5 hT5 hsim hsg4 hks4 ht hkq hm
            by_cases k1 : t.kind = 1
            · have t1 : (t.kind == 1) = true := by simp [k1]
              obtain ⟨hn, e11, e12⟩ := simT_1 HT5.out k1
              rw [List.length_map] at hn
              obtain ⟨A6, c6, rfl, _⟩ := HKS4.out.klen
              obtain ⟨A7, c7, rfl, _⟩ := HKS4.out.slen
              obtain ⟨nk, hnk⟩ : ∃ nk, L4.length = nk := ⟨_, rfl⟩
              obtain ⟨ns, hns⟩ : ∃ ns, st4.reverse.length = ns := ⟨_, rfl⟩
              have HNK := hid hnk; have HNS := hid hns; have E11 := hid e11; have E12 := hid e12
              have hsl := SGX.out.sl; have hskl := SGX.out.kl; have htb := HTB.out
              rw [List.length_map] at hskl
              have hns2 : st4.length = ns := by rw [← hns, List.length_reverse]
              rw [hnk] at hn HKS4 ⊢
              rw [hns] at HKS4 ⊢
              have z2 := z1
              rw [hn] at z2
              have HN := hid hn
              have B1 := hid (show nk + 1 ≤ maxLen by unfold maxLen; omega)
              have B2 := hid (show (nk + 1) * 24 ≤ 140737488355328 by omega)
              have B3 := hid (show ns + 1 ≤ maxLen by unfold maxLen; omega)
              have B4 := hid (show (ns + 1) * 8 ≤ 140737488355328 by omega)
              clear z1 hn hnk hns hsl hskl htb hns2 e11 e12 k1
              have t5 : ((nk : Int) != (nk : Int)) = false := by simp
              go_upto_region 20 with fail
              have HBX := hid (blk_new wr (Obj.cells #[.int .i64 t.kind, .int .i64 (nk : Int), .int .i64 t.to, .int .i64 t.v.k, .int .i64 t.v.n, .string t.v.s, .slice A5 0 c5] 51))
              have HKW := hid (show Kp wr (wr.alloc (Obj.cells #[.int .i64 t.kind, .int .i64 (nk : Int), .int .i64 t.to, .int .i64 t.v.k, .int .i64 t.v.n, .string t.v.s, .slice A5 0 c5] 51)) from (Kp.refl _).alloc _)
              generalize (wr.alloc (Obj.cells #[.int .i64 t.kind, .int .i64 (nk : Int), .int .i64 t.to, .int .i64 t.v.k, .int .i64 t.v.n, .string t.v.s, .slice A5 0 c5] 51)) = W5 at HBX HKW ⊢
              have HK5 := hid (HKS4.out.kp HKW.out)
              have HBS := hid (show w2.heap.size ≤ W5.heap.size from Nat.le_trans HKQ.out.le HKW.out.le)
              clear z0 z2 z3 z4 z5 z6
              go_wp2_with (at_builtin; refine app_lit elRowI ?p1 (.tmp 77) (.tmp 78) ?p2 HK5.out.row ?p3 #[.slice none 0 0] 23 1 1 ?p4 ?p5 ?p6 ?pb1 ?pb2 HBS.out ?p7)
              case p1 => rfl
              case p2 => rfl
              case p3 => rfl
              case p4 => rfl
              case p5 => rfl
              case p6 => first | rfl | (intro u hu; simp at hu; subst hu; rfl)
              case pb1 => rw [HNK.out]; exact B1.out
              case pb2 => rw [HNK.out]; exact B2.out
              case p7 =>
                intro v6 w6 hown6 hg6 _ _ hb6
                have HK6 := hid (HK5.out.kpush hg6 rfl hown6)
                have HB6 := hid hb6
                have x1 : w6.cell? ⟨wr.heap.size, 1, none⟩ = some (.int .i64 (nk : Int)) := hg6.cell (blk_cell HBX.out rfl) (fun e2 => by
                  have h9 := (World.ownsRow.lt HKS4.out.row _ e2.symm).2
                  exact absurd h9 (Nat.lt_irrefl _))
                have HBS6 := hid (Nat.le_trans HBS.out hb6.size)
                clear hown6 hg6 hb6
                go_wp2_with (at_builtin; refine app_lit elInt ?q1 (.tmp 80) (.tmp 83) ?q2 HK6.out.stk ?q3 #[.int .i64 (nk : Int)] 3 1 1 ?q4 ?q5 ?q6 ?qb1 ?qb2 HBS6.out ?q7)
                case q1 => rfl
                case q2 => rfl
                case q3 => rfl
                case q4 => rfl
                case q5 => rfl
                case q6 => first | rfl | (intro u hu; simp at hu; subst hu; rfl)
                case qb1 => rw [HNS.out]; exact B3.out
                case qb2 => rw [HNS.out]; exact B4.out
                case q7 =>
                  intro v7 w7 hown7 hg7 hm7 _ hb7
                  have HK7 := hid (HK6.out.spush (S2 := st4.reverse ++ [(nk : Int)]) hg7 hm7 (by unfold OwnI; simpa [intV] using hown7))
                  have HB7 := hid hb7
                  clear hown7 hg7 hm7 hb7 x1
                  go_wp2
                  refine last_in (L4 := L4 ++ [([], .slice none 0 0)]) (st4 := (nk : Int) :: st4) HWM.out hlm ?_ ?_ ?_ (Below.trans HKQ.out (Below.trans (Below.mono HKW.out HKQ.out.le) (Below.trans HB6.out HB7.out)))
                  · rw [List.reverse_cons]; exact HK7.out
                  · rw [HS5.out, E11.out, E12.out, HN.out, List.map_append]; rfl
                  · have h := HSG5.out
                    rw [E11.out, E12.out, HN.out] at h
                    rw [List.map_append]; exact h
            by_cases k2 : t.kind = 2
            · have t1 : (t.kind == 1) = false := by simp [k1]
              have t2 : (t.kind == 2) = true := by simp [k2]
              obtain ⟨top, r', ds, hst4, hK, hgl, hto, e11, e12⟩ := simT_2 HT5.out k2
              rw [List.length_map] at hto
              have hrg := SGX.out.rng top (by rw [hst4]; exact List.mem_cons_self ..)
              obtain ⟨i, rfl⟩ : ∃ i : Nat, top = (i : Int) := ⟨top.toNat, by omega⟩
              rw [Int.toNat_natCast] at hK e11
              obtain ⟨d, hd⟩ := kept_at hK
              subst hst4
              obtain ⟨m1, hm1, hdm, hdl⟩ := ds_last hgl
              obtain ⟨kb, kc4, rfl, hkb, y0, yf, hdo⟩ := HKS4.out.at_ hd
              obtain ⟨ib, ci, rfl, hic⟩ := rowSome hdo (by omega)
              have hib := (rowGe hdo).2
              have v0 := (rowAt hdo (show m1 < ds.length * 1 by omega)).1
              rw [List.getElem?_map, hdm] at v0
              replace v0 : wr.cell? ⟨ib, m1, none⟩ = some (.int .i64 t.n) := v0
              have hdl2 := rowLe hdo
              unfold maxLen at hdl2
              obtain ⟨sb, sc4, rfl, hsb, x1, hle⟩ := HKS4.out.top
              obtain ⟨nk, hnk⟩ : ∃ nk, L4.length = nk := ⟨_, rfl⟩
              obtain ⟨ns, hns⟩ : ∃ ns, r'.length + 1 = ns := ⟨_, rfl⟩
              obtain ⟨m2, hm2⟩ : ∃ m2, r'.length = m2 := ⟨_, rfl⟩
              obtain ⟨ni, hni⟩ : ∃ ni, ds.length = ni := ⟨_, rfl⟩
              have HNK := hid hnk; have HNS := hid (show ((i : Int) :: r').reverse.length = ns by rw [List.length_reverse, List.length_cons]; exact hns); have E11 := hid e11; have E12 := hid e12; have HNI := hid hni
              have hsl := SGX.out.sl; have hskl := SGX.out.kl; have htb := HTB.out
              rw [List.length_map] at hskl
              rw [List.length_cons] at hsl
              have hil : i < nk := by have := (List.getElem?_eq_some_iff.1 hd).1; omega
              rw [hnk] at hto HKS4 ⊢
              rw [hns] at HKS4 ⊢
              rw [hni] at hm1 y0 hdo hdl2 hic
              rw [hm2] at x1 hns
              rw [hto] at z2
              have HTO := hid hto
              have B1 := hid (show nk + 1 ≤ maxLen by unfold maxLen; omega)
              have B2 := hid (show (nk + 1) * 24 ≤ 140737488355328 by omega)
              have B3 := hid (show ns + 1 ≤ maxLen by unfold maxLen; omega)
              have B4 := hid (show (ns + 1) * 8 ≤ 140737488355328 by omega)
              have j1 : IntKind.i64.wrap ((ns : Int) - 1) = (m2 : Int) := by rw [IntKind.wrap_i64]; omega
              have j2 : (m2 : Int) < (ns : Int) := by omega
              have j3 : (i : Int) < (nk : Int) := by omega
              have j4 : IntKind.i64.wrap ((ni : Int) - 1) = (m1 : Int) := by rw [IntKind.wrap_i64]; omega
              have j5 : (m1 : Int) < (ni : Int) := by omega
              have j7 : decide ((m1 : Int) < 0) = false := decide_eq_false (by omega)
              have j8 : (0 : Int) ≤ (m1 : Int) := by omega
              have j9 : (m1 : Int) ≤ (ci : Int) := by omega
              have HM1 := hid (show m1 ≤ ds.length by omega)
              have HDM := hid hdl
              have Y0 := hid y0; have YF := hid yf; have V0 := hid v0; have HKB := hid hkb; have HSB := hid hsb; have HIB := hid hib; have HDO := hid hdo; have HD := hid hd
              clear hto hnk hns hni hm2 hsl hskl htb hil hdl2 hic hm1 hd hK hgl hdm hdl e11 e12 v0 yf hib hdo hrg hle k1 k2
              go_upto_region 25 with fail
              have HBX := hid (blk_new wr (Obj.cells #[.int .i64 t.kind, .int .i64 t.n, .int .i64 (nk : Int), .int .i64 t.v.k, .int .i64 t.v.n, .string t.v.s, .slice A5 0 c5] 51))
              have HKW := hid (show Kp wr (wr.alloc (Obj.cells #[.int .i64 t.kind, .int .i64 t.n, .int .i64 (nk : Int), .int .i64 t.v.k, .int .i64 t.v.n, .string t.v.s, .slice A5 0 c5] 51)) from (Kp.refl _).alloc _)
              generalize (wr.alloc (Obj.cells #[.int .i64 t.kind, .int .i64 t.n, .int .i64 (nk : Int), .int .i64 t.v.k, .int .i64 t.v.n, .string t.v.s, .slice A5 0 c5] 51)) = W5 at HBX HKW ⊢
              clear z0 z1 z2 z3 z4 z5 z6 x1 y0 hkb hsb
              refine last25 wr.heap.size kb nk kc4 ib ni ci i m1 t.n (blk_lt HBX.out) (Nat.lt_of_lt_of_le HKB.out HKW.out.le) (Nat.lt_of_lt_of_le HIB.out HKW.out.le) (cell_kp HKW.out HKB.out Y0.out) (cell_kp HKW.out HIB.out V0.out) (blk_cell HBX.out rfl) (blk_cell HBX.out rfl) j3 j5 (Int.not_lt.2 j8) j7 (fun u hg => ?_)
              have HBU := hid ((hg.block _ (blk_lt HBX.out)).trans HBX.out)
              have HKU := hid (HKW.out.trans hg)
              have hks := HKS4.out.kp HKU.out
              have hdo := ownsRow_keep HDO.out HKU.out
              rw [HNI.out] at hdo
              have hrow := hks.row
              rw [HNK.out] at hrow
              have y0 := cell_kp HKU.out HKB.out Y0.out
              have yf : u.frozen? ⟨kb, i, none⟩ = false := (HKU.out.cells.2 _ _ HKB.out).trans YF.out
              have HP := hid (hks.put HD.out (World.grownBy.refl u _) (.inl rfl : Moved u (.slice (some ⟨ib, 0, none⟩) ni ci) (.slice (some ⟨ib, 0, none⟩) m1 ci)) (ds2 := ds.dropLast) (by
                have h6 := rowTake (k := m1) hdo (show m1 ≤ ni by have := HNI.out; have := HM1.out; omega)
                rw [Nat.mul_one, ← List.map_take] at h6
                unfold OwnI
                rw [HDM.out, List.length_take, Nat.min_eq_left HM1.out]; exact h6))
              have HBS := hid (show w2.heap.size ≤ (u.setCell ⟨kb, i, none⟩ (.slice (some ⟨ib, 0, none⟩) m1 ci)).heap.size from Nat.le_trans (Nat.le_trans HKQ.out.le HKU.out.le) (by simp [World.setCell]))
              have HBT := hid (show Below w2.heap.size u (u.setCell ⟨kb, i, none⟩ (.slice (some ⟨ib, 0, none⟩) m1 ci)) from (Below.refl _ _).setCell (rowGe hrow).1 _)
              have HBV := hid (show (u.setCell ⟨kb, i, none⟩ (.slice (some ⟨ib, 0, none⟩) m1 ci)).heap[wr.heap.size]? = some (Obj.cells #[.int .i64 t.kind, .int .i64 t.n, .int .i64 (nk : Int), .int .i64 t.v.k, .int .i64 t.v.n, .string t.v.s, .slice A5 0 c5] 51 (0, 0)) from (blk_far (p := ⟨kb, i, none⟩) (by show wr.heap.size ≠ kb; have := HKB.out; omega) _).trans HBU.out)
              clear hks hdo hg hrow
              go_upto_region 28 with fail
              clear y0 yf
              generalize u.setCell ⟨kb, i, none⟩ (.slice (some ⟨ib, 0, none⟩) m1 ci) = U5 at HP HBS HBT HBV ⊢
              go_wp2_with (at_builtin; refine app_lit elRowI ?p1 (.tmp 129) (.tmp 130) ?p2 HP.out.row ?p3 #[.slice none 0 0] 23 1 1 ?p4 ?p5 ?p6 ?pb1 ?pb2 HBS.out ?p7)
              case p1 => rfl
              case p2 => rfl
              case p3 => rfl
              case p4 => rfl
              case p5 => rfl
              case p6 => first | rfl | (intro u hu; simp at hu; subst hu; rfl)
              case pb1 => rw [List.length_set, HNK.out]; exact B1.out
              case pb2 => rw [List.length_set, HNK.out]; exact B2.out
              case p7 =>
                intro v6 w6 hown6 hg6 _ _ hb6
                have HK6 := hid (HP.out.kpush hg6 rfl (by rw [List.map_set, List.length_set]; exact hown6))
                have HB6 := hid hb6
                have x1 : w6.cell? ⟨wr.heap.size, 2, none⟩ = some (.int .i64 (nk : Int)) := hg6.cell (blk_cell HBV.out rfl) (fun e2 => by
                  injection e2 with e2
                  have h8 : wr.heap.size = kb := e2
                  have h9 := HKB.out
                  rw [h8] at h9
                  exact absurd h9 (Nat.lt_irrefl _))
                have HBS6 := hid (Nat.le_trans HBS.out hb6.size)
                clear hown6 hg6 hb6
                go_wp2_with (at_builtin; refine app_lit elInt ?q1 (.tmp 132) (.tmp 135) ?q2 HK6.out.stk ?q3 #[.int .i64 (nk : Int)] 3 1 1 ?q4 ?q5 ?q6 ?qb1 ?qb2 HBS6.out ?q7)
                case q1 => rfl
                case q2 => rfl
                case q3 => rfl
                case q4 => rfl
                case q5 => rfl
                case q6 => first | rfl | (intro u hu; simp at hu; subst hu; rfl)
                case qb1 => rw [HNS.out]; exact B3.out
                case qb2 => rw [HNS.out]; exact B4.out
                case q7 =>
                  intro v7 w7 hown7 hg7 hm7 _ hb7
                  have HK7 := hid (HK6.out.spush (S2 := ((i : Int) :: r').reverse ++ [(nk : Int)]) hg7 hm7 (by unfold OwnI; simpa [intV] using hown7))
                  have HB7 := hid hb7
                  clear hown7 hg7 hm7 hb7 x1
                  go_wp2
                  refine last_in (L4 := L4.set i (ds.dropLast, .slice (some ⟨ib, 0, none⟩) m1 ci) ++ [([], .slice none 0 0)]) (st4 := (nk : Int) :: (i : Int) :: r') HWM.out hlm ?_ ?_ ?_ (Below.trans HKQ.out (Below.trans (Below.mono HKU.out HKQ.out.le) (Below.trans HBT.out (Below.trans HB6.out HB7.out))))
                  · rw [List.reverse_cons]; exact HK7.out
                  · rw [HS5.out, E11.out, E12.out, HTO.out, List.map_append, List.map_set]; rfl
                  · have h := HSG5.out
                    rw [E11.out, E12.out, HTO.out] at h
                    rw [List.map_append, List.map_set]; exact h
            by_cases k3 : t.kind = 3
            · have t1 : (t.kind == 1) = false := by simp [k1]
              have t2 : (t.kind == 2) = false := by simp [k2]
              have t3 : (t.kind == 3) = true := by simp [k3]
              obtain ⟨r', hst4, hK, rfl, rfl⟩ := simT_34 HT5.out (.inl k3)
              have hrg := SGX.out.rng t.n (by rw [hst4]; exact List.mem_cons_self ..)
              obtain ⟨i, hi⟩ : ∃ i : Nat, t.n = (i : Int) := ⟨t.n.toNat, by omega⟩
              rw [hi] at hK hst4 z1 hrg
              obtain ⟨d, hd⟩ := kept_at hK
              subst hst4
              obtain ⟨kb, kc4, rfl, hkb, y0, _, hdo⟩ := HKS4.out.at_ (by simpa using hd)
              obtain ⟨Ai, ci, rfl⟩ := own_form hdo
              obtain ⟨sb, sc4, rfl, hsb, x1, hle⟩ := HKS4.out.top
              obtain ⟨ns, hns⟩ : ∃ ns, st5.length + 1 = ns := ⟨_, rfl⟩
              obtain ⟨m1, hm1⟩ : ∃ m1, st5.length = m1 := ⟨_, rfl⟩
              have HR1 := hid hm1
              rw [hns] at HKS4 ⊢
              rw [hm1] at x1
              have j1 : IntKind.i64.wrap ((ns : Int) - 1) = (m1 : Int) := by rw [IntKind.wrap_i64]; have := SGX.out.sl; rw [List.length_cons] at this; have := HTB.out; omega
              have j2 : (m1 : Int) < (ns : Int) := by omega
              have j6 : (m1 : Int) ≤ (sc4 : Int) := by omega
              have j7 : (0 : Int) ≤ (m1 : Int) := by omega
              have j3 : ¬ (m1 : Int) < 0 := by omega
              have j4 : decide ((m1 : Int) < 0) = false := decide_eq_false (by omega)
              have j5 : (i : Int) < (L4.length : Int) := by have := (List.getElem?_eq_some_iff.1 hd).1; omega
              have Y0 := hid y0; have X1 := hid x1; have HKB := hid hkb; have HSB := hid hsb
              have hbx : (wr.alloc (Obj.cells #[.int .i64 3, .int .i64 (i : Int), .int .i64 t.to, .int .i64 t.v.k, .int .i64 t.v.n, .string t.v.s, .slice A5 0 c5] 51)).heap[wr.heap.size]? = some (Obj.cells #[.int .i64 3, .int .i64 (i : Int), .int .i64 t.to, .int .i64 t.v.k, .int .i64 t.v.n, .string t.v.s, .slice A5 0 c5] 51 (0, 0)) := blk_new _ _
              clear k1 k2 hd hK hns hm1 hrg y0 x1 hdo
              have HKW := hid (show Kp wr (wr.alloc (Obj.cells #[.int .i64 3, .int .i64 (i : Int), .int .i64 t.to, .int .i64 t.v.k, .int .i64 t.v.n, .string t.v.s, .slice A5 0 c5] 51)) from (Kp.refl _).alloc _)
              have T1 := hid (show (wr.alloc (Obj.cells #[.int .i64 3, .int .i64 (i : Int), .int .i64 t.to, .int .i64 t.v.k, .int .i64 t.v.n, .string t.v.s, .slice A5 0 c5] 51)).cell? ⟨wr.heap.size, 1, none⟩ = some (.int .i64 (i : Int)) from blk_cell hbx rfl)
              have HBX := hid (blk_lt hbx)
              have HTKE := hid (show ((i : Int) :: st5).reverse.take m1 = st5.reverse by rw [List.reverse_cons]; exact List.take_left' (by rw [List.length_reverse]; exact HR1.out))
              clear hbx
              go_upto_region 33 with fail
              refine last33 wr.heap.size kb L4.length kc4 sb ns sc4 i m1 ci Ai HBX.out (Nat.lt_of_lt_of_le HKB.out HKW.out.le) (Nat.lt_of_lt_of_le HSB.out HKW.out.le) (cell_kp HKW.out HKB.out Y0.out) (cell_kp HKW.out HSB.out X1.out) T1.out j5 j2 j3 j4 (fun u hg => ?_)
              have HGU := hid (HKW.out.trans hg)
              clear hg
              go_wp2
              refine last_in HWM.out hlm ?_ HS5.out HSG5.out (HKQ.out.trans HGU.out)
              have hp := (HKS4.out.kp HGU.out).spop (k := m1) (by rw [List.length_reverse, List.length_cons]; have := HR1.out; omega)
              rw [HTKE.out] at hp
              exact hp
            by_cases k4 : t.kind = 4
            · have t1 : (t.kind == 1) = false := by simp [k1]
              have t2 : (t.kind == 2) = false := by simp [k2]
              have t3 : (t.kind == 3) = false := by simp [k3]
              have t4 : (t.kind == 4) = true := by simp [k4]
              obtain ⟨r', hst4, hK, rfl, rfl⟩ := simT_34 HT5.out (.inr k4)
              have hrg := SGX.out.rng t.n (by rw [hst4]; exact List.mem_cons_self ..)
              obtain ⟨i, hi⟩ : ∃ i : Nat, t.n = (i : Int) := ⟨t.n.toNat, by omega⟩
              rw [hi] at hK hst4 z1 hrg
              obtain ⟨d, hd⟩ := kept_at hK
              subst hst4
              obtain ⟨kb, kc4, rfl, hkb, y0, _, hdo⟩ := HKS4.out.at_ (by simpa using hd)
              obtain ⟨Ai, ci, rfl⟩ := own_form hdo
              obtain ⟨sb, sc4, rfl, hsb, x1, hle⟩ := HKS4.out.top
              obtain ⟨ns, hns⟩ : ∃ ns, st5.length + 1 = ns := ⟨_, rfl⟩
              obtain ⟨m1, hm1⟩ : ∃ m1, st5.length = m1 := ⟨_, rfl⟩
              have HR1 := hid hm1
              rw [hns] at HKS4 ⊢
              rw [hm1] at x1
              have j1 : IntKind.i64.wrap ((ns : Int) - 1) = (m1 : Int) := by rw [IntKind.wrap_i64]; have := SGX.out.sl; rw [List.length_cons] at this; have := HTB.out; omega
              have j2 : (m1 : Int) < (ns : Int) := by omega
              have j6 : (m1 : Int) ≤ (sc4 : Int) := by omega
              have j7 : (0 : Int) ≤ (m1 : Int) := by omega
              have j3 : ¬ (m1 : Int) < 0 := by omega
              have j4 : decide ((m1 : Int) < 0) = false := decide_eq_false (by omega)
              have j5 : (i : Int) < (L4.length : Int) := by have := (List.getElem?_eq_some_iff.1 hd).1; omega
              have Y0 := hid y0; have X1 := hid x1; have HKB := hid hkb; have HSB := hid hsb
              have hbx : (wr.alloc (Obj.cells #[.int .i64 4, .int .i64 (i : Int), .int .i64 t.to, .int .i64 t.v.k, .int .i64 t.v.n, .string t.v.s, .slice A5 0 c5] 51)).heap[wr.heap.size]? = some (Obj.cells #[.int .i64 4, .int .i64 (i : Int), .int .i64 t.to, .int .i64 t.v.k, .int .i64 t.v.n, .string t.v.s, .slice A5 0 c5] 51 (0, 0)) := blk_new _ _
              clear k1 k2 hd hK hns hm1 hrg y0 x1 hdo
              have HKW := hid (show Kp wr (wr.alloc (Obj.cells #[.int .i64 4, .int .i64 (i : Int), .int .i64 t.to, .int .i64 t.v.k, .int .i64 t.v.n, .string t.v.s, .slice A5 0 c5] 51)) from (Kp.refl _).alloc _)
              have T1 := hid (show (wr.alloc (Obj.cells #[.int .i64 4, .int .i64 (i : Int), .int .i64 t.to, .int .i64 t.v.k, .int .i64 t.v.n, .string t.v.s, .slice A5 0 c5] 51)).cell? ⟨wr.heap.size, 1, none⟩ = some (.int .i64 (i : Int)) from blk_cell hbx rfl)
              have HBX := hid (blk_lt hbx)
              have HTKE := hid (show ((i : Int) :: st5).reverse.take m1 = st5.reverse by rw [List.reverse_cons]; exact List.take_left' (by rw [List.length_reverse]; exact HR1.out))
              clear hbx
              go_upto_region 33 with fail
              refine last33 wr.heap.size kb L4.length kc4 sb ns sc4 i m1 ci Ai HBX.out (Nat.lt_of_lt_of_le HKB.out HKW.out.le) (Nat.lt_of_lt_of_le HSB.out HKW.out.le) (cell_kp HKW.out HKB.out Y0.out) (cell_kp HKW.out HSB.out X1.out) T1.out j5 j2 j3 j4 (fun u hg => ?_)
              have HGU := hid (HKW.out.trans hg)
              clear hg
              go_wp2
              refine last_in HWM.out hlm ?_ HS5.out HSG5.out (HKQ.out.trans HGU.out)
              have hp := (HKS4.out.kp HGU.out).spop (k := m1) (by rw [List.length_reverse, List.length_cons]; have := HR1.out; omega)
              rw [HTKE.out] at hp
              exact hp
            have t1 : (t.kind == 1) = false := by simp [k1]
            have t2 : (t.kind == 2) = false := by simp [k2]
            have t3 : (t.kind == 3) = false := by simp [k3]
            have t4 : (t.kind == 4) = false := by simp [k4]
            obtain ⟨rfl, rfl⟩ := simT_else HT5.out k1 k2 k3 k4
            clear k1 k2 k3 k4
            go_wp2
            exact last_in HWM.out hlm (HKS4.out.kp ((Kp.refl _).alloc _)) HS5.out HSG5.out (HKQ.out.trans ((Kp.refl _).alloc _))
          · have i2 : ¬ (m : Int) < (Tk.length : Int) := by omega
            have hmt : Tk.take m = Tk := List.take_of_length_le (by omega)
            rw [hmt] at hsim
            obtain ⟨Kf, stf, hgo1, hgo2⟩ := HGO.out
            rw [hsim] at hgo1
            injection hgo1 with hgo1
            injection hgo1 with q1 q2
            subst q1; subst q2
            obtain ⟨kn, hkn⟩ : ∃ kn, k + 1 = kn := ⟨_, rfl⟩
            have hnx := HNX.out
            rw [hkn] at hnx
            have hlk2 : Lk (nextM R e) (L4.map Prod.fst) st4 := hgo2
            obtain ⟨b3, off3, rfl, hb3, fv, pv, q0, _, _, _, _, _, hso⟩ := at_sts (HS.out.kp hkq) hnx
            obtain ⟨A1, cF, B1, cP, rfl, rfl⟩ := hso.form
            obtain ⟨A6, c6, rfl, _⟩ := hks4.klen
            obtain ⟨A7, c7, rfl, _⟩ := hks4.slen
            have hfl : st4.reverse.length = (nextM R e).fr.length := by rw [List.length_reverse, hlk2.st, List.length_map]
            obtain ⟨nf, hnf⟩ : ∃ nf, (nextM R e).fr.length = nf := ⟨_, rfl⟩
            have HKS4 := hid hks4; have HKN := hid hkn; have HNX2 := hid hnx; have HLK2 := hid hlk2
            rw [hfl, hnf] at HKS4 ⊢
            rw [hnf] at q0
            have j1 : IntKind.i64.wrap ((k : Int) + 1) = (kn : Int) := by rw [IntKind.wrap_i64]; have := HWK.out; unfold wrap64 at this; rw [hkn] at this; exact this
            have j2 : (kn : Int) < (L.length : Int) := by have := (List.getElem?_eq_some_iff.1 hnx).1; omega
            have t5 : ((nf : Int) != (nf : Int)) = false := by simp
            clear hks4 hkn hnx hlk2 hgo2 hso hfl hnf hmt hsim hsg4 hkq hm x0
            go_wp2
            exact last_out HKN.out hlt HKS4.out HNX2.out HLK2.out HKQ.out
    · have i1 : ¬ (k : Int) < (T.length : Int) := by omega
      clear hk hkp hks
      go_wp2
      exact bodyPost_ret (v := .bool true) (by simp [results, Try.results4, go_sem]) rfl ⟨rfl, HK.out.trans HKR.out⟩
/-! ### The row's step (the guide's frame, written by program) -/
set_option maxRecDepth 100000 in
theorem lifted (os : Os) (started : os.Started) (H : Type) (enc : TypeId × Value → H) :
    ReturnsInHanded {} Try.checked os 4 .any (Rows.panicsLastSpec.pre6 enc Try.prog Try.f4 Rows.panicsLastRow.domain false) (Rows.panicsLastSpec.post enc Try.prog Try.f4 false true false false) := by
  refine returnsInHanded_of_change_sized (C := Try.checked) own started (by kernel_rfl) Try.func4
    (ChangeSpec.witness6 (enc := enc) (C := Try.checked) false ⟨#[], #[.slice none 0 0], []⟩ 8 (by kernel_rfl) (by kernel_rfl) (by kernel_rfl) (by kernel_rfl)) ?_
  intro W base args ds gs before hval0 hW _ hsz0 _
  have hsz : (DataW.weightsEach Try.prog (Try.f4.params.toList ++ Rows.panicsLastSpec.plain.varTypes Try.prog) (ds ++ gs)).all (· ≤ reachBytes) = true := hsz0
  clear hsz0
  have hval : ∀ (j : Nat) t v, Try.f4.params[j]? = some t → args[j]? = some v → Value.okWide Try.prog W .any base t v := hval0
  have hW' := hW
  obtain ⟨p, q, hA0, hV, rfl, hfz, hnd⟩ := hW
  have hA : DataW.TrodAll enc Try.prog W 0 (fun _ => true) true Try.f4.params.toList args.toList ds p := hA0
  rw [Try.params4] at hA hval hsz
  obtain ⟨v0, vs0, d0, ds0, p0, q0, hargs, rfl, rfl, h0, r0⟩ := trodAll_cons hA
  obtain ⟨rfl, rfl, rfl⟩ := trodAll_nil r0
  obtain rfl : args = #[v0] := by cases args; simp_all
  obtain ⟨rfl, rfl⟩ := trodVars_none hV
  have k0 := h0
  have lt0 : ∀ x ∈ p0, x.block < W.heap.size := by obtain ⟨m, hm⟩ := k0; exact DataW.trod_lt m _ _ _ hm
  have hz0 : ∀ n ∈ DataW.weights Try.prog 22 d0, n ≤ reachBytes := fun n hn => by
    have := List.all_eq_true.1 hsz _ (DataW.weights_mem_each (j := 0) rfl rfl n hn)
    simpa using this
  obtain ⟨a0, w0⟩ := open_events (hval 0 22 v0 rfl rfl) h0 hz0
  clear hA0 hval0
  simp only [List.append_nil] at hW'
  refine (walk v0 a0 W w0).mono fun e W' ⟨he, bel⟩ => ?_
  subst he
  exact ⟨_, rfl, _, _, _, [], _, [], hW', trodAll_mk1 (shut_bool Try.underlying4 _), (trodAll_cons_mk (Below.trod laidOut (by kernel_rfl) (of_decide_eq_true (by kernel_rfl)) k0 bel lt0) trodAll_mk0), rfl, Below.frame bel _, fun h => by cases h⟩

theorem over : Rows.panicsLastRow.holds Try.pinned (OpenSpec.ofChange Rows.panicsLastSpec) :=
  OpenClaim.holds_of_wide 4 Try.f4 rfl rfl rfl rfl rfl rfl rfl ⟨rfl, rfl, rfl, rfl, rfl⟩ rfl rfl rfl rfl rfl (by kernel_rfl) Try.func4 (by kernel_rfl)
    (of_decide_eq_true (by kernel_rfl)) (by unfold Func.isWrapper; rw [if_neg (of_decide_eq_false (by kernel_rfl))]; exact ⟨rfl, rfl⟩)
    (fun os started H enc _ => lifted os started H enc)

/-- THE STATEMENT. -/
theorem proved : Rows.PanicsLastSaid := over
#print axioms proved

end Go.Proofs.Ytfholconiofgoaa.panicsLast
