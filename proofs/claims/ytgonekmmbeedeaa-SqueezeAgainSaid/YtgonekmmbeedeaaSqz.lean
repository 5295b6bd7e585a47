/-
  Package squeeze: Squeeze. Condition: the code lies within the reach.
-/
import Derived.Test.YtgonekmmbeedeaaSqS
import Derived.Test.YtgonekmmbeedeaaCodeL
import Derived.Test.YtgonekmmbeedeaaSoundQ
namespace Go.Proofs.Ytgonekmmbeedeaa.Sq
open Go.RowKit
set_option linter.unusedVariables false
set_option linter.unusedSimpArgs false

/-- What Squeeze answers of a sound code. -/
noncomputable def sqF (f : FnM) : FnM := { f with ins := fixM f.ins }
noncomputable def sqM (c : CodeM) : CodeM := ⟨c.funcs.map sqF, c.texts⟩
set_option maxHeartbeats 1000000 in
theorem clone_strs (v : Value) (l : List ByteArray) (w : World) (h : RdL CeStr 1 w v l) (hl : l.length * 16 ≤ 140737488355328) : Calls Try.prog 30 #[v] w fun e w' => (∃ v', e = .returned v' ∧ OwnL CeStr 1 9 w' w.heap.size v' l) ∧ Kp w w' := by
  obtain ⟨A, c, rfl, _⟩ := h.form
  obtain ⟨news, hch, _, hsrc⟩ := h.src
  have q22 : ∀ (w : World) (a : Option Addr) (n c n' c' : Nat), (binOp .eql 23 (.slice a n c) (.slice none n' c')).run Try.prog w = .ok (.bool a.isNone) w := fun w a n c n' c' => Lib.run_eql_slice_nil w _ _ a n c n' c' Try.underlying23
  have HS := hid hsrc; have HCH := hid hch
  have h1 := Chunk.one_ (fun cs a h => str_one cs a h) hch
  have hll := hch.len
  clear hsrc h hch
  cases A with
  | none =>
    have hn : l.length = 0 := by
      rcases Nat.eq_zero_or_pos l.length with h | h
      · exact h
      · obtain ⟨_, e, _⟩ := HS.out h; cases e
    obtain rfl : l = [] := List.eq_nil_of_length_eq_zero hn
    go_enter Try.func30, Try.ntmps30
    go_wp2
    go_ret
    exact ⟨⟨_, rfl, OwnL.nil _ _ _ _ _⟩, Kp.refl _⟩
  | some ad =>
    have HC : Hid (0 < l.length → ∃ ad', some ad = some ad' ∧ ∀ j u, news[j]? = some u → (w.alloc (.cells #[] 9)).cell? (ad'.add j) = some u) := hid fun hp => by
      obtain ⟨ad', e, hc⟩ := HS.out hp
      exact ⟨ad', e, fun j u hu => Lib.cell?_alloc_some _ (hc j u hu)⟩
    have HO := hid (World.ownsRow_made w #[] 0 (e := 9) (size := 1) (Nat.le_refl _) (Nat.zero_le _) rfl)
    go_enter Try.func30, Try.ntmps30
    go_wp2_with (at_builtin; go_must (refine app_src elStrW rfl (.tmp 5) (.tmp 6) rfl HO.out rfl news _ _ _ rfl hll HC.out h1 (by unfold maxLen; omega) (by omega) (by simp) ?_); intro v1 w1 hown1 hg1 hm1 hb1)
    go_ret
    exact ⟨⟨_, rfl, news, by simpa using hown1, Chunk.mono (fun _ _ h => CeStr.any h) HCH.out⟩, Below.trans ((Kp.refl _).alloc _) hb1⟩
/-- A sound function's instructions go on within it. -/
theorem no_t (op : Int) (h : ¬ (op = 25 ∨ op = 26 ∨ op = 36 ∨ op = 40) ∧ ¬ (op = 27 ∨ op = 38)) : True := trivial
theorem sound_good {c : CodeM} {f : FnM} (hne : f.ins ≠ []) (hall : ∀ (j : Nat) i, f.ins[j]? = some i → insM c f i = 0) (hl : lastOk f = true) : GoodL f.ins := by
  constructor
  · intro i hi t ht
    obtain ⟨j, hj⟩ := List.getElem?_of_mem hi
    have h := hall j i hj
    have key : ∀ k : Nat, k < 5 → okAt c f (formM i) i k = true := by
      unfold insM at h
      split at h
      · cases h
      · split at h
        · assumption
        · cases h
    unfold targetM at ht
    split at ht
    · rename_i ha
      injection ht with ht
      subst ht
      have h0 := key 0 (by omega)
      unfold okAt formM fieldM at h0
      rcases ha with ha | ha | ha | ha <;> rw [if_neg (by omega)] at h0 <;> rw [show fieldsM i.op = [116, 45, 45, 45, 45] by rw [ha]; rfl] at h0 <;> simp [InsM.row, withinB] at h0 <;> omega
    · split at ht
      · rename_i hb
        injection ht with ht
        subst ht
        have h1 := key 1 (by omega)
        unfold okAt formM fieldM at h1
        rcases hb with hb | hb
        · rw [if_neg (by omega), show fieldsM i.op = [115, 116, 45, 45, 45] by rw [hb]; rfl] at h1
          simp [InsM.row, withinB] at h1; omega
        · rw [if_neg (by omega), show fieldsM i.op = [107, 116, 45, 45, 45] by rw [hb]; rfl] at h1
          simp [InsM.row, withinB] at h1; omega
      · cases ht
  · cases hg : f.ins.getLast? with
    | none => exact absurd (List.getLast?_eq_none_iff.1 hg) hne
    | some i =>
      unfold lastOk at hl
      rw [hg] at hl
      exact ⟨i, rfl, of_decide_eq_true hl⟩
/-- What a slice reads as is told by the memory alone. -/
theorem rd_uniq {w : World} {v : Value} {l m : List InsM} (h : RdL CeIns 6 w v l) (k : RdL CeIns 6 w v m) : l = m := by
  obtain ⟨A, c, rfl, _, h3⟩ := h
  obtain ⟨A', c', e, _, k3⟩ := k
  injection e with e1 e2 e3
  subst e1
  apply List.ext_getElem?
  intro j
  rcases Nat.lt_or_ge j l.length with hj | hj
  · obtain ⟨i, hi⟩ : ∃ i, l[j]? = some i := ⟨_, List.getElem?_eq_getElem hj⟩
    obtain ⟨i', hi'⟩ : ∃ i', m[j]? = some i' := ⟨_, List.getElem?_eq_getElem (by omega)⟩
    obtain ⟨b, off, cs, e, _, ⟨rfl, _⟩, _, hc⟩ := h3 j i hi
    obtain ⟨b', off', cs', e', _, ⟨rfl, _⟩, _, hc'⟩ := k3 j i' hi'
    rw [e] at e'
    injection e' with e'
    injection e' with e1 e2
    subst e1 e2
    have q := fun n (hn : n < 6) => (hc n hn).symm.trans (hc' n hn)
    have q0 := q 0 (by omega); have q1 := q 1 (by omega); have q2 := q 2 (by omega); have q3 := q 3 (by omega); have q4 := q 4 (by omega); have q5 := q 5 (by omega)
    simp at q0 q1 q2 q3 q4 q5
    rw [hi, hi']
    obtain ⟨a0, a1, a2, a3, a4, a5⟩ := i
    obtain ⟨b0, b1, b2, b3, b4, b5⟩ := i'
    simp_all
  · rw [List.getElem?_eq_none hj, List.getElem?_eq_none (by omega)]
noncomputable def readI (w : World) (v : Value) : List InsM := Classical.epsilon fun l => RdL CeIns 6 w v l
theorem readI_eq {w : World} {v : Value} {l : List InsM} (h : RdL CeIns 6 w v l) : readI w v = l := rd_uniq (Classical.epsilon_spec (p := fun l => RdL CeIns 6 w v l) ⟨l, h⟩) h
set_option maxRecDepth 20000 in
set_option maxHeartbeats 8000000 in
theorem squeeze_err (w : World) (v : Value) (c : CodeM) (h : RdCode w v c) (s0 s1 s2 : Int) (hq : soundM c = (s0, s1, s2)) (hs : s0 ≠ 0) : Calls Try.prog 14 #[v] w fun e w' => e = .returned (.tuple #[.agg #[.slice none 0 0, .slice none 0 0], .int .i64 s0]) ∧ Kp w w' := by
  obtain ⟨lf, lt, rfl, hf, hfl, ht, htl⟩ := h
  obtain ⟨Af, cf, rfl, _⟩ := hf.form
  obtain ⟨At, ct, rfl, _⟩ := ht.form
  have HKA := hid (show Kp w ((w.alloc (.cells #[.slice Af c.funcs.length cf, .slice At c.texts.length ct] 25)).alloc (.cells #[.slice none 0 0, .slice none 0 0] 25)) from ((Kp.refl _).alloc _).alloc _)
  have HS := hid (sound_any ((w.alloc (.cells #[.slice Af c.funcs.length cf, .slice At c.texts.length ct] 25)).alloc (.cells #[.slice none 0 0, .slice none 0 0] 25)) (.agg #[.slice Af c.funcs.length cf, .slice At c.texts.length ct]) c ⟨_, _, rfl, hf.kp CeFn.kp HKA.out, hfl, ht.kp CeStr.kp HKA.out, htl⟩)
  rw [hq] at HS
  unfold fixV at HS
  dsimp only at HS
  have HR := hid (by have h := blk_new (w.alloc (.cells #[.slice Af c.funcs.length cf, .slice At c.texts.length ct] 25)) (.cells #[.slice none 0 0, .slice none 0 0] 25); rw [World.size_alloc] at h; exact h)
  have HB0 := hid (blk_old (blk_new w (.cells #[.slice Af c.funcs.length cf, .slice At c.texts.length ct] 25)) (.cells #[.slice none 0 0, .slice none 0 0] 25))
  have t0 : (s0 != 0) = true := by simp [hs]
  have t1 : (s0 == 0) = false := by simp [hs]
  clear hf hfl ht htl hs hq
  go_enter Try.func14, Try.ntmps14
  go_upto_region 1 with fail
  generalize ((w.alloc (.cells #[.slice Af c.funcs.length cf, .slice At c.texts.length ct] 25)).alloc (.cells #[.slice none 0 0, .slice none 0 0] 25)) = W at HKA HS HR HB0 ⊢
  obtain ⟨n1, hn1⟩ : ∃ n, w.heap.size + 1 = n := ⟨_, rfl⟩
  have HN := hid (show w.heap.size ≤ n1 by omega)
  rw [hn1] at HR
  rw [hn1]
  generalize w.heap.size = n0 at HB0 HN ⊢
  have z0 := blk_cell (o := 0) (v := .slice Af c.funcs.length cf) HB0.out rfl
  have z1 := blk_cell (o := 1) (v := .slice At c.texts.length ct) HB0.out rfl
  have zl := blk_lt HB0.out
  go_upto_region 3 with (go_at_call 18; go_must (refine HS.out.mono ?_); rintro e w1 ⟨rfl, hk1⟩; have HK1 := hid (HKA.out.trans hk1); have HR1 := hid ((hk1.block _ (blk_lt HR.out)).trans HR.out); clear hk1)
  have HFX := hid (blk_new w1 (.cells #[.int .i64 s0, .int .i64 s1, .int .i64 s2] 41))
  have HR3 := hid (blk_old HR1.out (.cells #[.int .i64 s0, .int .i64 s1, .int .i64 s2] 41))
  have HK3 := hid (HK1.out.alloc (.cells #[.int .i64 s0, .int .i64 s1, .int .i64 s2] 41))
  have hne : w1.heap.size ≠ n1 := by have := blk_lt HR1.out; omega
  have hne' : n1 ≠ w1.heap.size := fun e => hne e.symm
  generalize (w1.alloc (.cells #[.int .i64 s0, .int .i64 s1, .int .i64 s2] 41)) = W3 at HFX HR3 HK3 ⊢
  generalize w1.heap.size = n4 at HFX hne hne' ⊢
  clear z0 z1 zl HR1 HK1 HR HS HKA HB0
  have y0 := blk_cell (o := 0) (v := .slice none 0 0) HR3.out rfl
  have y1 := blk_cell (o := 1) (v := .slice none 0 0) HR3.out rfl
  have f0 := blk_free (o := 0) HR3.out
  have f1 := blk_free (o := 1) HR3.out
  have x0 := blk_cell (o := 0) (v := .int .i64 s0) HFX.out rfl
  have HN2 := hid (show w.heap.size ≤ n1 by omega)
  clear hn1
  go_region
  all_goals
    go_wp2
    obtain ⟨r0, r1⟩ := set2_cells (BoxAt.mk_ y0 f0) (BoxAt.mk_ y1 f1) (.slice none 0 0) (.slice none 0 0)
    refine bodyPost_ret (v := .tuple #[.agg #[.slice none 0 0, .slice none 0 0], .int .i64 s0]) (by simp [results, Try.results14, go_sem, r0, r1]) rfl ?_
    exact ⟨rfl, ((HK3.out.setCell (p := ⟨n1, 0, none⟩) HN2.out _).setCell (p := ⟨n1, 1, none⟩) HN2.out _).drew⟩
/-! ### a sound code -/
theorem SqI.setFn {w wr : World} {B n0 n1 nd k nf : Nat} {lf lt vt vf : Value} {c : CodeM} {cs : Array Value} (h : CpI w B n0 n1 nd lf lt vt c k vf wr) (hw : w.heap.size ≤ nf) (hb : wr.heap[nf]? = some (.cells cs 45 (0, 0))) (hne : ∀ g, vf.ownBlock = some g → g ≠ nf) (v : Value) : CpI w B n0 n1 nd lf lt vt c k vf (wr.setCell ⟨nf, 4, none⟩ v) := h.setFn hw hb hne v
theorem sq_take {c : CodeM} {k : Nat} {f : FnM} (hf : c.funcs[k]? = some f) : (sqM c).funcs[k]? = some (sqF f) := by unfold sqM; rw [List.getElem?_map, hf]; rfl
set_option maxRecDepth 20000 in
set_option maxHeartbeats 16000000 in
theorem squeeze_ok (w : World) (v : Value) (c : CodeM) (h : RdCode w v c) (hq : (soundM c).1 = 0) : Calls Try.prog 14 #[v] w fun e w' => (∃ v', e = .returned (.tuple #[v', .int .i64 0]) ∧ OCode w' w.heap.size v' (sqM c)) ∧ Kp w w' := by
  obtain ⟨_, hfn, htn, htx, hfs, hqe⟩ := sound_inv hq
  obtain ⟨lf, lt, rfl, hf, hfl, ht, htl⟩ := h
  obtain ⟨Af, cf, rfl, _⟩ := hf.form
  obtain ⟨At, ct, rfl, _⟩ := ht.form
  have HKA := hid (show Kp w ((w.alloc (.cells #[.slice Af c.funcs.length cf, .slice At c.texts.length ct] 25)).alloc (.cells #[.slice none 0 0, .slice none 0 0] 25)) from ((Kp.refl _).alloc _).alloc _)
  have HS := hid (sound_any ((w.alloc (.cells #[.slice Af c.funcs.length cf, .slice At c.texts.length ct] 25)).alloc (.cells #[.slice none 0 0, .slice none 0 0] 25)) (.agg #[.slice Af c.funcs.length cf, .slice At c.texts.length ct]) c ⟨_, _, rfl, hf.kp CeFn.kp HKA.out, hfl, ht.kp CeStr.kp HKA.out, htl⟩)
  rw [hqe] at HS
  unfold fixV at HS
  dsimp only at HS
  have HR := hid (by have h := blk_new (w.alloc (.cells #[.slice Af c.funcs.length cf, .slice At c.texts.length ct] 25)) (.cells #[.slice none 0 0, .slice none 0 0] 25); rw [World.size_alloc] at h; exact h)
  have HB0 := hid (blk_old (blk_new w (.cells #[.slice Af c.funcs.length cf, .slice At c.texts.length ct] 25)) (.cells #[.slice none 0 0, .slice none 0 0] 25))
  have HF := hid hf; have HT := hid ht; have HFS := hid hfs; have HFL := hid hfl; have HTL := hid htl
  clear hf hfl ht htl hq hqe htx hfs
  go_enter Try.func14, Try.ntmps14
  go_upto_region 1 with fail
  generalize ((w.alloc (.cells #[.slice Af c.funcs.length cf, .slice At c.texts.length ct] 25)).alloc (.cells #[.slice none 0 0, .slice none 0 0] 25)) = W at HKA HS HR HB0 ⊢
  obtain ⟨n1, hn1⟩ : ∃ n, w.heap.size + 1 = n := ⟨_, rfl⟩
  have HN := hid (show w.heap.size ≤ n1 by omega)
  rw [hn1] at HR
  rw [hn1]
  obtain ⟨n0, hn0⟩ : ∃ n, w.heap.size = n := ⟨_, rfl⟩
  rw [hn0] at HB0 HN ⊢
  have z0 := blk_cell (o := 0) (v := .slice Af c.funcs.length cf) HB0.out rfl
  have z1 := blk_cell (o := 1) (v := .slice At c.texts.length ct) HB0.out rfl
  have zl := blk_lt HB0.out
  go_upto_region 4 with (go_at_call 18; go_must (refine HS.out.mono ?_); rintro e w1 ⟨rfl, hk1⟩; have HK1 := hid (HKA.out.trans hk1); have HR1 := hid ((hk1.block _ (blk_lt HR.out)).trans HR.out); have HC1 := hid ((hk1.block _ (blk_lt HB0.out)).trans HB0.out); clear hk1)
  have hka := (Kp.refl w1).alloc (.cells #[.int .i64 0, .int .i64 0, .int .i64 0] 41)
  have HR3 := hid (blk_old HR1.out (.cells #[.int .i64 0, .int .i64 0, .int .i64 0] 41))
  have HC3 := hid (blk_old HC1.out (.cells #[.int .i64 0, .int .i64 0, .int .i64 0] 41))
  have HK3 := hid (HK1.out.trans hka)
  generalize (w1.alloc (.cells #[.int .i64 0, .int .i64 0, .int .i64 0] 41)) = W3 at HR3 HC3 HK3 ⊢
  clear z0 z1 zl HR1 HC1 HK1 hka HR HS HKA HB0
  have z1 := blk_cell (o := 1) (v := .slice At c.texts.length ct) HC3.out rfl
  have zl := blk_lt HC3.out
  have hcl := clone_strs _ _ W3 (HT.out.kp CeStr.kp HK3.out) (by have := HTL.out; omega)
  go_upto_region 5 with (go_at_call 30; refine hcl.mono ?_; rintro e w4 ⟨⟨v4, rfl, ho4⟩, hk4⟩; obtain ⟨A4, c4, e4⟩ : ∃ A c, v4 = .slice A _ c := (by obtain ⟨xs, h1, _⟩ := ho4; exact own_form h1); subst e4; have HO4 := hid ho4; have HK4 := hid hk4; clear ho4 hk4)
  obtain ⟨B, hB⟩ : ∃ B, n1 + 1 = B := ⟨_, rfl⟩
  have hb3 : B ≤ W3.heap.size := by have := blk_lt HR3.out; omega
  have HCP : Hid (CpI w B n0 n1 w4.heap.size (.slice Af c.funcs.length cf) (.slice At c.texts.length ct) (.slice A4 c.texts.length c4) (sqM c) 0 (.slice none 0 0) (w4.alloc (.cells #[.slice none 0 0, .slice A4 c.texts.length c4] 25))) := hid
    ⟨(HK3.out.trans HK4.out).alloc _, blk_old ((HK4.out.block _ (blk_lt HC3.out)).trans HC3.out) _, blk_old ((HK4.out.block _ (blk_lt HR3.out)).trans HR3.out) _, blk_new _ _, OwnL.nil _ _ _ _ _, OwnL.base_ hb3 (HO4.out.kp CeStr.kp ((Kp.refl _).alloc _))⟩
  have HND := hid (show B ≤ w4.heap.size from Nat.le_trans hb3 HK4.out.le)
  have HNN := hid (show w.heap.size = n0 ∧ n0 + 1 = n1 ∧ n1 + 1 = B by omega)
  generalize (w4.alloc (.cells #[.slice none 0 0, .slice A4 c.texts.length c4] 25)) = W5 at HCP ⊢
  generalize w4.heap.size = nd at HCP HND ⊢
  clear z1 zl hcl HK4 HO4 HR3 HC3 HK3 hb3 hn0 hn1 hB HN
  have z0 := blk_cell (o := 0) (v := .slice Af c.funcs.length cf) HCP.out.code rfl
  have zl := blk_lt HCP.out.code
  go_wp2_with fail
  clear z0 zl
  have hsl : (sqM c).funcs.length = c.funcs.length := by unfold sqM; exact List.length_map ..
  go_loopw [25] (fun x wr => ∃ (k : Nat) (A : Option Addr) (cc : Nat), k ≤ c.funcs.length ∧ x = .int .i64 (k : Int) ∧ CpI w B n0 n1 nd (.slice Af c.funcs.length cf) (.slice At c.texts.length ct) (.slice A4 c.texts.length c4) (sqM c) k (.slice A k cc) wr) (fun x _ => c.funcs.length - (intOf x).toNat)
  case atStart => exact ⟨0, none, 0, Nat.zero_le _, rfl, HCP.out⟩
  case round =>
    obtain ⟨k, Ad, cd, hk, rfl, hcp⟩ := hrel
    have HC := hid hcp
    have d0 := blk_cell (o := 0) (v := Value.slice Ad k cd) hcp.box rfl
    have d1 := blk_cell (o := 1) (v := Value.slice A4 c.texts.length c4) hcp.box rfl
    have dl := blk_lt hcp.box
    by_cases hlt : k < c.funcs.length
    · have i1 : (k : Int) < (c.funcs.length : Int) := by omega
      have k1 : IntKind.i64.wrap ((k : Int) + 1) = (k : Int) + 1 := by rw [IntKind.wrap_i64]; omega
      obtain ⟨f, hf⟩ : ∃ f, c.funcs[k]? = some f := ⟨_, List.getElem?_eq_getElem hlt⟩
      obtain ⟨b, off, rfl, hbl, lins, p0, p1, p2, p3, p4, hns, hp_, hs_, hc_, hins, hil⟩ := at_fn HF.out hf
      have p0 := cell_kp hcp.kp hbl p0
      have p1 := cell_kp hcp.kp hbl p1
      have p2 := cell_kp hcp.kp hbl p2
      have p3 := cell_kp hcp.kp hbl p3
      have p4 := cell_kp hcp.kp hbl p4
      have hbl := Nat.lt_of_lt_of_le hbl hcp.kp.le
      obtain ⟨Ai, ci, rfl, _⟩ := hins.form
      have hfk := HFS.out k f hf
      have hok := head_ok hfk.1
      have HGD := hid (sound_good hok.2.2.2.2.2.2.2.2.1 hfk.2.1 hfk.2.2)
      have hfl2 : f.ins.length ≤ 20000 := hok.2.2.2.2.2.2.2.2.2
      have HFK := hid (sq_take hf)
      have HOF := hid (show okFnB (sqF f) from ⟨hns, hp_, hs_, hc_, by have := fix_le HGD.out; show (fixM f.ins).length * 48 ≤ _; omega⟩)
      have HIN := hid (hins.kp CeIns.kp (hcp.kp.alloc (.cells #[.string f.name, .int .i64 f.params, .int .i64 f.slots, .int .i64 f.caps, .slice Ai f.ins.length ci] 45)))
      have HBF := hid (blk_new wr (.cells #[.string f.name, .int .i64 f.params, .int .i64 f.slots, .int .i64 f.caps, .slice Ai f.ins.length ci] 45))
      have HCA := hid (hcp.alloc (.cells #[.string f.name, .int .i64 f.params, .int .i64 f.slots, .int .i64 f.caps, .slice Ai f.ins.length ci] 45))
      have HRN := hid hcp.row_lt
      have HZ0 := hid (World.size_alloc wr (.cells #[.string f.name, .int .i64 f.params, .int .i64 f.slots, .int .i64 f.caps, .slice Ai f.ins.length ci] 45))
      clear hcp hf hins hns hp_ hs_ hc_ hil hfk hok d1
      go_upto_region 8 with fail
      generalize (wr.alloc (.cells #[.string f.name, .int .i64 f.params, .int .i64 f.slots, .int .i64 f.caps, .slice Ai f.ins.length ci] 45)) = W6 at HIN HBF HCA HZ0 ⊢
      clear p0 p1 p2 p3 p4
      have q4 := blk_cell (o := 4) (v := .slice Ai f.ins.length ci) HBF.out rfl
      have ql := blk_lt HBF.out
      have hci := clone_ins _ _ W6 HIN.out (by omega)
      go_wp2_with (go_at_call 31; refine hci.mono ?_; rintro e w7 ⟨⟨v7, rfl, ho7⟩, hk7⟩; obtain ⟨A7, c7, rfl⟩ := OIns.form ho7; have HO7 := hid ho7; have HK7 := hid hk7; clear ho7 hk7)
      obtain ⟨wo, hwo⟩ : ∃ x, x = wr := ⟨_, rfl⟩
      subst hwo
      go_loopw [8] (fun x wr => ∃ (cur : List InsM) (A : Option Addr) (cc : Nat), x = .slice A cur.length cc ∧ OIns wr W6.heap.size (.slice A cur.length cc) cur ∧ GoodL cur ∧ cur.length ≤ 20000 ∧ fixM cur = fixM f.ins ∧ Kp w7 wr) (fun x wr => meas (readI wr x))
      case atStart => exact ⟨f.ins, A7, c7, rfl, HO7.out, HGD.out, hfl2, rfl, Kp.refl _⟩
      case round =>
        obtain ⟨cur, Ac, cx, rfl, hoc, hgc, hcl, hfx, hkc⟩ := hrel
        have hrm := readI_eq (OwnL.rd hoc)
        have HOC := hid hoc; have HGC := hid hgc; have HFX := hid hfx; have HKC := hid hkc; have HRM := hid hrm
        have hon := once_any wr _ cur (OwnL.rd hoc) hgc (by omega)
        have hol := once_le cur
        clear hoc hgc hfx hkc hrm
        by_cases hcur : onceM cur = cur
        · rw [hcur] at hon
          have HCUR := hid hcur
          clear hcur hol
          go_upto_region 12 with first | (go_at_call 32; refine hon.mono ?_; rintro e w8 ⟨⟨v8, rfl, ho8⟩, hk8⟩; obtain ⟨A8, c8, rfl⟩ := OIns.form ho8; have HO8 := hid ho8; have HK8 := hid hk8; have heq := equal_ins _ _ cur cur w8 (OwnL.rd (OwnL.kp CeIns.kp HOC.out hk8)) (OwnL.rd ho8) (by omega) (by omega) true (by simp); clear ho8 hk8) | (go_at_call 33; refine heq.mono ?_; rintro e w9 ⟨rfl, hk9⟩; have HK9 := hid (HK8.out.trans hk9); clear hk9)
          have hk69 := HK7.out.trans (HKC.out.trans HK9.out)
          have hce : cur = (sqF f).ins := (fix_end HCUR.out).symm.trans HFX.out
          have HC9 := hid (HCA.out.keep hk69)
          have HB9 := hid ((hk69.block _ (blk_lt HBF.out)).trans HBF.out)
          have HI9 : Hid (OwnL CeIns 6 64 w9 B (.slice Ac cur.length cx) (sqF f).ins) := hid (by rw [← hce]; exact OwnL.base_ (by have := HND.out; have := blk_lt HC.out.box; have := HZ0.out; omega) (OwnL.kp CeIns.kp HOC.out HK9.out))
          have ff := blk_free (o := 4) HB9.out
          have f4 := blk_cell (o := 4) (v := Value.slice Ai f.ins.length ci) HB9.out rfl
          have fl := blk_lt HB9.out
          have HNF := hid (show ∀ g, (Value.slice Ad k cd).ownBlock = some g → g ≠ wo.heap.size from fun g hg => by have := HRN.out g hg; omega)
          have HBW := hid (show B ≤ wo.heap.size by have h := blk_lt HC.out.box; have := HND.out; omega)
          clear hce hk69 HO8 HK8 HK9 HKC HK7 HO7 hci HRM heq hon q4 ql hfl2 HGC HCUR HFX HOC
          go_upto_region 13 with fail
          have HCS := hid (HC9.out.setFn (by have := HNN.out; have := HBW.out; omega) HB9.out HNF.out (.slice Ac cur.length cx))
          have HBS2 := hid (blk_set (o := 4) HB9.out (.slice Ac cur.length cx))
          have HIS := hid (ownL_touch (e := 45) (by decide) (fun _ _ x => CeIns.any x) HI9.out (rowTouch (o := 4) HB9.out (.slice Ac cur.length cx)))
          generalize (w9.setCell ⟨wo.heap.size, 4, none⟩ (.slice Ac cur.length cx)) = wS at HCS HBS2 HIS ⊢
          clear f4 ff fl d0 dl HB9 HC9 HI9
          have e0 := blk_cell (o := 0) (v := Value.slice Ad k cd) HCS.out.box rfl
          have el := blk_lt HCS.out.box
          have g0 := blk_cell (o := 0) (v := Value.string f.name) HBS2.out rfl
          have g1 := blk_cell (o := 1) (v := Value.int .i64 f.params) HBS2.out rfl
          have g2 := blk_cell (o := 2) (v := Value.int .i64 f.slots) HBS2.out rfl
          have g3 := blk_cell (o := 3) (v := Value.int .i64 f.caps) HBS2.out rfl
          have g4 := blk_cell (o := 4) (v := Value.slice Ac cur.length cx) HBS2.out rfl
          have gl := blk_lt HBS2.out
          have hlk : ((sqM c).funcs.take k).length = k := by rw [List.length_take]; omega
          obtain ⟨xsf, l1, l2⟩ := HCS.out.fns
          rw [hlk] at l1
          have HL1 := hid l1
          have HL2 := hid l2
          have HLK := hid hlk
          clear l1 l2 hlk
          go_wp2_with (at_builtin; refine app_lit elFn ?r0 (.tmp 41) (.tmp 43) ?r1 HL1.out ?r2 #[.string f.name, .int .i64 f.params, .int .i64 f.slots, .int .i64 f.caps, .slice Ac cur.length cx] 45 1 1 ?r3 ?r4 ?r5 ?r6 ?r7 ?r8 ?r9)
          case r0 => rfl
          case r1 => rfl
          case r2 => rfl
          case r3 => rfl
          case r4 => rfl
          case r5 => repeat' (first | exact rfl | refine ⟨?_, ?_⟩)
          case r6 => unfold maxLen; omega
          case r7 => have := HFL.out; omega
          case r8 => have := HCS.out.kp.le; have := blk_lt HCS.out.box; have := HND.out; omega
          case r9 =>
            intro v' w' G1 G2 _ _ G4
            obtain ⟨A', c', rfl⟩ := own_form G1
            have ht := Touch.of_grown HL1.out G2
            have hbx2 : w'.heap[nd]? = some (.cells #[.slice Ad k cd, .slice A4 c.texts.length c4] 25 (0, 0)) := ht.2 _ _ HCS.out.box (fun cs fr e => by injection e with _ e _; exact absurd e (by decide))
            have hins : OwnL CeIns 6 64 w' B (.slice Ac cur.length cx) (sqF f).ins := ownL_touch (e := 45) (by decide) (fun _ _ x => CeIns.any x) HIS.out ht
            have hrow := OwnL.snoc (a := sqF f) (n := k + 1) (by rw [HLK.out]) HL2.out (fun cs a h => h.touch (by decide) ht) ⟨.slice Ac cur.length cx, rfl, hins, HOF.out⟩ rfl G1
            rw [take_snoc HFK.out] at hrow
            have HXE := hid (HCS.out.step ht G4 (by have := HNN.out; omega) HND.out (by have := HNN.out; omega) hbx2 hrow)
            have s0 := blk_cell (o := 0) (v := Value.slice Ad k cd) hbx2 rfl
            have s1 := blk_free (o := 0) hbx2
            have sl := blk_lt hbx2
            clear G1 G2 G4 ht hbx2 hrow hins e0 el g0 g1 g2 g3 g4 gl
            go_wp2
            exact ⟨⟨k + 1, A', c', hlt, by congr 1, HXE.out⟩, by simp only [intOf, Int.toNat_natCast]; omega⟩
        · have hon' : ¬ cur = onceM cur := fun e => hcur e.symm
          have HCUR := hid hcur
          clear hcur
          go_wp2_with first | (go_at_call 32; refine hon.mono ?_; rintro e w8 ⟨⟨v8, rfl, ho8⟩, hk8⟩; obtain ⟨A8, c8, rfl⟩ := OIns.form ho8; have HO8 := hid ho8; have HK8 := hid hk8; have heq := equal_ins _ _ cur (onceM cur) w8 (OwnL.rd (OwnL.kp CeIns.kp HOC.out hk8)) (OwnL.rd ho8) (by omega) (by omega) false (by simp [hon']); clear ho8 hk8) | (go_at_call 33; refine heq.mono ?_; rintro e w9 ⟨rfl, hk9⟩; have HK9 := hid hk9; clear hk9)
          have HO9 := hid (OwnL.kp CeIns.kp HO8.out HK9.out)
          have hlw : W6.heap.size ≤ wr.heap.size := Nat.le_trans HK7.out.le HKC.out.le
          refine ⟨⟨onceM cur, A8, c8, rfl, OwnL.base_ hlw HO9.out, once_good HGC.out, by omega, (fix_step HGC.out HCUR.out).trans HFX.out, HKC.out.trans (HK8.out.trans HK9.out)⟩, ?_⟩
          rw [HRM.out, readI_eq (OwnL.rd HO9.out)]
          exact once_meas HGC.out HCUR.out
    · have i1 : ¬ (k : Int) < (c.funcs.length : Int) := by omega
      obtain rfl : k = c.funcs.length := by omega
      have r0 := blk_cell (o := 0) (v := Value.slice none 0 0) HC.out.res rfl
      have r1 := blk_cell (o := 1) (v := Value.slice none 0 0) HC.out.res rfl
      have rf0 := blk_free (o := 0) HC.out.res
      have rf1 := blk_free (o := 1) HC.out.res
      have rl := blk_lt HC.out.res
      clear hcp hlt hk
      go_wp2
      obtain ⟨z0, z1⟩ := set2_cells (BoxAt.mk_ r0 rf0) (BoxAt.mk_ r1 rf1) (.slice Ad c.funcs.length cd) (.slice A4 c.texts.length c4)
      refine bodyPost_ret (v := .tuple #[.agg #[.slice Ad c.funcs.length cd, .slice A4 c.texts.length c4], .int .i64 0]) (by simp [results, Try.results14, go_sem, z0, z1]) rfl ?_
      have hC := HC.out
      rw [← hsl] at hC
      obtain ⟨⟨v', e, ho⟩, hk⟩ := CpI.fin (c := sqM c) hC (by have := HNN.out; omega) (by rw [hsl]; exact HFL.out) HTL.out
      rw [hsl] at e ho hk
      injection e with e
      subst e
      exact ⟨⟨_, rfl, ho⟩, hk⟩
end Go.Proofs.Ytgonekmmbeedeaa.Sq
