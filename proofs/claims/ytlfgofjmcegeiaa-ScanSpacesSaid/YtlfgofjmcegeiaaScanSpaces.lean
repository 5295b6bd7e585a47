/-
  The law ScanSpaces answers true for all texts and numbers. No condition.
-/
import Derived.SizedLaws
import Derived.Deep.CondSized
import Derived.Test.YtlfgofjmcegeiaaRows
import Derived.Test.YtlfgofjmcegeiaaScanA
import Derived.Test.YtlfgofjmcegeiaaSpot
namespace Go.Proofs.Ytlfgofjmcegeiaa.scanSpaces
open Go.ChangeShapes Go.WideShapes Go.ChangeAt Go.RowKit
open Go.ChangeMaps (open_string shut_string)
set_option linter.unusedVariables false
set_option linter.unusedSimpArgs false

theorem own : ownKnob Try.prog.godebug = none := by kernel_rfl
theorem laidOut : laidOutB Try.prog = true := by kernel_rfl


theorem kp_blk {w w' : World} {b : Nat} {x : Obj} (hk : Kp w w') (h : w.heap[b]? = some x) : w'.heap[b]? = some x := (hk.block b (blk_lt h)).trans h
theorem posL_bd (S : ByteArray) : ∀ a : Nat, 1 ≤ (posL S a).1 ∧ (posL S a).1 ≤ a + 1 ∧ 1 ≤ (posL S a).2 ∧ (posL S a).2 ≤ a + 1
  | 0 => ⟨by show (1 : Int) ≤ 1; omega, by show (1 : Int) ≤ ((0 : Nat) : Int) + 1; omega, by show (1 : Int) ≤ 1; omega, by show (1 : Int) ≤ ((0 : Nat) : Int) + 1; omega⟩
  | a + 1 => by
    obtain ⟨h1, h2, h3, h4⟩ := posL_bd S a
    rw [posL]
    split
    · exact ⟨by show 1 ≤ (posL S a).1 + 1; omega, by show (posL S a).1 + 1 ≤ ((a + 1 : Nat) : Int) + 1; omega, by show (1 : Int) ≤ 1; omega, by show (1 : Int) ≤ ((a + 1 : Nat) : Int) + 1; omega⟩
    · exact ⟨by show 1 ≤ (posL S a).1; omega, by show (posL S a).1 ≤ ((a + 1 : Nat) : Int) + 1; omega, by show 1 ≤ (posL S a).2 + 1; omega, by show (posL S a).2 + 1 ≤ ((a + 1 : Nat) : Int) + 1; omega⟩
theorem in_round {S : ByteArray} {a a1 F : Nat} {x y : Int} (ha : a + 1 = a1) (h1 : posL S a1 = (x, y)) (h2 : a < F) (hs : F ≤ S.size) : (∃ a' : Nat, Value.int .i64 x = .int .i64 (posL S a').1 ∧ Value.int .i64 y = .int .i64 (posL S a').2 ∧ Value.int .i64 (a1 : Int) = .int .i64 (a' : Int) ∧ a' ≤ F) ∧ S.size - (intOf (.int .i64 (a1 : Int))).toNat < S.size - (intOf (.int .i64 (a : Int))).toNat := by
  subst ha
  exact ⟨⟨a + 1, by rw [h1], by rw [h1], rfl, h2⟩, by simp only [intOf, Int.toNat_natCast]; omega⟩

theorem eight (j : Nat) (h : j < 8) : ((⟨#[32, 32, 32, 32, 32, 32, 32, 32]⟩ : ByteArray).extract 0 j).data.toList = List.replicate j 32 := by
  have e := ext_take ⟨#[32, 32, 32, 32, 32, 32, 32, 32]⟩ j
  rw [ByteArray.toList_eq] at e
  rw [e]
  match j, h with
  | 0, _ => rfl
  | 1, _ => rfl
  | 2, _ => rfl
  | 3, _ => rfl
  | 4, _ => rfl
  | 5, _ => rfl
  | 6, _ => rfl
  | 7, _ => rfl
  | j + 8, h => omega
theorem toks_is (w : World) (S : ByteArray) (l : List TokenM) (h : ToksM S (.ok l)) : Calls Try.prog 17 #[.string S] w fun e w' => (∃ v, e = .returned (.tuple #[v, .agg #[.int .i64 0, .int .i64 0, .int .i64 0]]) ∧ OwnL CeToken 4 41 w' w.heap.size v l) ∧ Kp w w' := by
  refine (toks_any w S (by have := h.placed; omega)).mono ?_
  rintro e w' ⟨h1, h2⟩
  refine ⟨?_, h2⟩
  rcases h1 with ⟨l2, v, hT, h3, h4⟩ | ⟨er, hT, _⟩
  · have hd := hT.det h
    injection hd with hd
    subst hd
    exact ⟨v, h3, h4⟩
  · have hd := hT.det h
    cases hd
set_option maxRecDepth 20000 in
set_option maxHeartbeats 8000000 in
theorem walk (a0 : ByteArray) (a1 : Int) (a2 : Int) (w : World) (w0 : a0.size ≤ 140737488351232) (w1 : (Lit.int .i64 a1).wf = true) (w2 : (Lit.int .i64 a2).wf = true) :
    Calls Try.prog 6 #[.string a0, .int .i64 a1, .int .i64 a2] w fun e w' => e = .returned (.bool true) ∧ Kp w w' := by
  clear w1 w2
  go_enter Try.func6, Try.ntmps6
  go_wp2_with fail
  refine (toks_any _ a0 w0).mono ?_
  rintro e u1 ⟨h1, hk1⟩
  have HK1 := hid hk1
  rcases h1 with ⟨l, v, hT, rfl, ho⟩ | ⟨er, hT, e1, e2, rfl⟩
  · have HT := hid hT; have HO := hid (OwnL.rd ho)
    obtain ⟨_, hl2, hs8⟩ := hT.placed
    have HL2 := hid hl2; have HS8 := hid hs8
    obtain ⟨A, cc, rfl, _⟩ := (OwnL.rd ho).form
    clear hT ho hk1 w0 hl2 hs8
    by_cases hz : l.length = 0
    · have t0 : ((l.length : Int) == 0) = true := by rw [beq_iff_eq]; omega
      clear hz
      go_wp2_with (go_at_call 18; go_must (refine (three_any _).mono ?_); rintro e w9 ⟨rfl, hk9⟩)
      go_ret
      exact ⟨rfl, HK1.out.trans (((Kp.refl _).alloc _).trans hk9)⟩
    have t0 : ((l.length : Int) == 0) = false := by rw [beq_eq_false_iff_ne]; omega
    by_cases hbig : 7992 < a0.size
    · have t1 : (7992 : Int) < (a0.size : Int) := by omega
      clear hz hbig
      go_wp2_with (go_at_call 18; go_must (refine (three_any _).mono ?_); rintro e w9 ⟨rfl, hk9⟩)
      go_ret
      exact ⟨rfl, HK1.out.trans (((Kp.refl _).alloc _).trans hk9)⟩
    have t1 : ¬ (7992 : Int) < (a0.size : Int) := by omega
    have HBIG := hid hbig
    have hsb := spotV_bd a1 (l.length : Int) (by omega)
    have hsp : ∀ w, _ := fun w => spot_any a1 (l.length : Int) w (by omega) (by have := HL2.out; omega)
    obtain ⟨k, hk⟩ : ∃ k : Nat, spotV a1 (l.length : Int) = (k : Int) := ⟨(spotV a1 (l.length : Int)).toNat, by omega⟩
    rw [hk] at hsb hsp
    have hkl : k < l.length := by omega
    obtain ⟨t, ht⟩ : ∃ t, l[k]? = some t := ⟨_, List.getElem?_eq_getElem hkl⟩
    obtain ⟨d, hd, hdp, hds⟩ := HT.out.spots t (List.mem_of_getElem? ht)
    obtain ⟨b, off, rfl, hb, g0, g1, g2, g3, _⟩ := at_token HO.out ht
    have i1 : (k : Int) < (l.length : Int) := by omega
    have HSP := hid hsp
    have HD := hid hd
    clear hsb hsp hk ht hz hbig hd
    go_wp2_with (go_at_call 19; go_must (refine (HSP.out _).mono ?_); rintro e w9 ⟨rfl, rfl⟩)
    have HB0 := hid (show ((u1.alloc (Obj.cells #[.int .i64 0, .int .i64 0, .int .i64 0] 36)).alloc (Obj.cells #[.int .i64 t.kind, .string t.text, .int .i64 t.line, .int .i64 t.col] 41)).heap[u1.heap.size]? = some (Obj.cells #[.int .i64 0, .int .i64 0, .int .i64 0] 36 (0, 0)) from blk_old (blk_new _ _) _)
    have HB1 := hid (show ((u1.alloc (Obj.cells #[.int .i64 0, .int .i64 0, .int .i64 0] 36)).alloc (Obj.cells #[.int .i64 t.kind, .string t.text, .int .i64 t.line, .int .i64 t.col] 41)).heap[u1.heap.size + 1]? = some (Obj.cells #[.int .i64 t.kind, .string t.text, .int .i64 t.line, .int .i64 t.col] 41 (0, 0)) from blk_new2 _ _ _)
    have HKA := hid (show Kp u1 ((u1.alloc (Obj.cells #[.int .i64 0, .int .i64 0, .int .i64 0] 36)).alloc (Obj.cells #[.int .i64 t.kind, .string t.text, .int .i64 t.line, .int .i64 t.col] 41)) from ((Kp.refl _).alloc _).alloc _)
    generalize ((u1.alloc (Obj.cells #[.int .i64 0, .int .i64 0, .int .i64 0] 36)).alloc (Obj.cells #[.int .i64 t.kind, .string t.text, .int .i64 t.line, .int .i64 t.col] 41)) = W at HB0 HB1 HKA ⊢
    obtain ⟨bt, hbt⟩ : ∃ bt, u1.heap.size + 1 = bt := ⟨_, rfl⟩
    rw [hbt] at HB1 ⊢
    obtain ⟨bs, hbs⟩ : ∃ bs, u1.heap.size = bs := ⟨_, rfl⟩
    rw [hbs] at HB0 ⊢
    clear hbt hbs g0 g1 g2 g3
    have q2 := blk_cell (o := 2) (v := .int .i64 t.line) HB1.out rfl
    have q3 := blk_cell (o := 3) (v := .int .i64 t.col) HB1.out rfl
    have hbl := blk_lt HB1.out
    obtain ⟨F, hF⟩ : ∃ F, d.pos = F := ⟨_, rfl⟩
    rw [hF] at hdp hds
    have HFF := hid hF; have HFP := hid hdp; have HFS := hid hds
    clear hF hdp hds
    go_loop [10, 11, 12] (fun ln cl at_ => ∃ a : Nat, ln = .int .i64 (posL a0 a).1 ∧ cl = .int .i64 (posL a0 a).2 ∧ at_ = .int .i64 (a : Int) ∧ a ≤ F) (fun _ _ at_ => a0.size - (intOf at_).toNat)
    case atStart => exact ⟨0, rfl, rfl, rfl, Nat.zero_le _⟩
    case round =>
      obtain ⟨a, rfl, rfl, rfl, haf⟩ := hrel
      by_cases hlf : a < F
      · have hsz : a < a0.size := by have := HFS.out; omega
        have i2 : (a : Int) < (a0.size : Int) := by omega
        obtain ⟨d, hd⟩ : ∃ d, F = a + d + 1 := ⟨F - a - 1, by omega⟩
        have hpl := posL_lt (S := a0) (a := a) d
        rw [← hd, HFP.out] at hpl
        have hbd := posL_bd a0 a
        obtain ⟨x, hx⟩ : ∃ x, (posL a0 a).1 = x := ⟨_, rfl⟩
        obtain ⟨y, hy⟩ : ∃ y, (posL a0 a).2 = y := ⟨_, rfl⟩
        have HP := hid (show posL a0 a = (x, y) by rw [← hx, ← hy])
        rw [hx, hy] at hpl hbd ⊢
        obtain ⟨a1, ha1⟩ : ∃ a1, a + 1 = a1 := ⟨_, rfl⟩
        obtain ⟨x1, hx1⟩ : ∃ x1, x + 1 = x1 := ⟨_, rfl⟩
        obtain ⟨y1, hy1⟩ : ∃ y1, y + 1 = y1 := ⟨_, rfl⟩
        have HA1 := hid ha1
        have k0 : IntKind.i64.wrap ((a : Int) + 1) = (a1 : Int) := by rw [IntKind.wrap_i64]; have := HS8.out; omega
        have k1 : IntKind.i64.wrap (x + 1) = x1 := by rw [IntKind.wrap_i64]; have := HS8.out; omega
        have k2 : IntKind.i64.wrap (y + 1) = y1 := by rw [IntKind.wrap_i64]; have := HS8.out; omega
        obtain ⟨bb, hbb⟩ : ∃ bb, a0[a] = bb := ⟨_, rfl⟩
        have hat : a0.data.toList[a]? = some bb := by rw [← hbb]; exact rest_at a0 a hsz
        have HLF := hid hlf
        by_cases h10 : bb = 10
        · have t10 : ((bb.toNat : Int) == 10) = true := (byte_beq bb 10 (by decide)).trans (by rw [h10]; rfl)
          have HN := hid (show posL a0 a1 = (x1, 1) by rw [← ha1, posL_nl (by rw [hat, h10]), HP.out, ← hx1])
          clear hbd hd hx hy ha1 hx1 hy1 hat h10 hlf haf
          rcases hpl with hpl | ⟨hp1, hpl⟩
          · have q1 : x < t.line := hpl
            clear hpl
            go_wp2
            exact in_round HA1.out HN.out HLF.out HFS.out
          · have q1 : ¬ x < t.line := by have : x = t.line := hp1; omega
            have q2 : y < t.col := hpl
            clear hpl hp1
            go_wp2
            exact in_round HA1.out HN.out HLF.out HFS.out
        · have t10 : ((bb.toNat : Int) == 10) = false := (byte_beq bb 10 (by decide)).trans (beq_eq_false_iff_ne.2 h10)
          have HN := hid (show posL a0 a1 = (x, y1) by rw [← ha1, posL_up (by rw [hat]; intro e; injection e with e; exact h10 e), HP.out, ← hy1])
          clear hbd hd hx hy ha1 hx1 hy1 hat h10 hlf haf
          rcases hpl with hpl | ⟨hp1, hpl⟩
          · have q1 : x < t.line := hpl
            clear hpl
            go_wp2
            exact in_round HA1.out HN.out HLF.out HFS.out
          · have q1 : ¬ x < t.line := by have : x = t.line := hp1; omega
            have q2 : y < t.col := hpl
            clear hpl hp1
            go_wp2
            exact in_round HA1.out HN.out HLF.out HFS.out
      · obtain rfl : a = F := by omega
        by_cases hsz : a < a0.size
        · have i5 : (a : Int) < (a0.size : Int) := by omega
          rw [HFP.out]
          dsimp only
          have q1 : ¬ t.line < t.line := by omega
          have q4 : ¬ t.col < t.col := by omega
          have hsb := spotV_bd a2 8 (by omega)
          have hsp : ∀ w, _ := fun w => spot_any a2 8 w (by omega) (by omega)
          obtain ⟨j, hj⟩ : ∃ j : Nat, spotV a2 8 = (j : Int) := ⟨(spotV a2 8).toNat, by omega⟩
          rw [hj] at hsb hsp
          have HJ := hid (show j < 8 by omega)
          have j0 : (0 : Int) ≤ (j : Int) := by omega
          have j1 : (j : Int) ≤ 8 := by omega
          have k0 : (0 : Int) ≤ (a : Int) := by omega
          have k1 : (a : Int) ≤ (a0.size : Int) := by have := HFS.out; omega
          have HSQ := hid hsp
          obtain ⟨bl, hbl'⟩ : ∃ bl, (⟨#[32, 32, 32, 32, 32, 32, 32, 32]⟩ : ByteArray).extract 0 j = bl := ⟨_, rfl⟩
          obtain ⟨s1, hs1⟩ : ∃ s1, a0.extract 0 a = s1 := ⟨_, rfl⟩
          obtain ⟨s3, hs3⟩ : ∃ s3, a0.extract a a0.size = s3 := ⟨_, rfl⟩
          have hl' : (s1 ++ bl ++ s3).data.toList = a0.data.toList.take d.pos ++ (List.replicate j 32 ++ restOf a0 d.pos) := by
            have e1 : s1.data.toList = a0.data.toList.take a := by rw [← ByteArray.toList_eq, ← hs1]; exact ext_take a0 a
            have e2 : bl.data.toList = List.replicate j 32 := by rw [← hbl']; exact eight j HJ.out
            have e3 : s3.data.toList = restOf a0 a := by
              have e := ext_rest a0 a (a0.size - a)
              rw [show a + (a0.size - a) = a0.size by have := HFS.out; omega, List.take_of_length_le (by rw [rest_len]; exact Nat.le_refl _), hs3] at e
              exact e
            rw [HFF.out]
            simp [e1, e2, e3]
          have hz : (s1 ++ bl ++ s3).size ≤ 8000 := by
            have e := congrArg List.length hl'
            have e1 : (s1 ++ bl ++ s3).data.toList.length = (s1 ++ bl ++ s3).size := by rw [Array.length_toList]; rfl
            rw [e1, List.length_append, List.length_append, List.length_replicate, rest_len, List.length_take, Array.length_toList, HFF.out] at e
            have e2 : a0.data.size = a0.size := rfl
            have := HBIG.out; have := HJ.out; have := HFS.out; omega
          have hsum : s1.size + bl.size + s3.size ≤ 8000 := by have := hz; simp only [ByteArray.size_append] at this; exact this
          have ad1 : ∀ w, Sem.run Try.prog (Op.stringOp .add s1 bl) w = .ok (.string (s1 ++ bl)) w := fun w => run_string_add_sum w _ _ (by omega)
          have ad2 : ∀ w, Sem.run Try.prog (Op.stringOp .add (s1 ++ bl) s3) w = .ok (.string (s1 ++ bl ++ s3)) w := fun w => run_string_add_sum w _ _ (by rw [ByteArray.size_append]; omega)
          clear hsum
          obtain ⟨l', hT', hlk⟩ := spaces_law HT.out HD.out hl' hz
          have HT' := hid hT'
          have HLK := hid (show Like l l' false from .inl hlk)
          clear hl' hz hT' hlk hsb hsp hj haf hlf
          go_upto_region 13 with (go_at_call 19; go_must (refine (HSQ.out _).mono ?_); rintro e w9 ⟨rfl, rfl⟩)
          clear q2 q3
          refine wp_region_last 15 [[], [], [0, 1], [], [2, 3], [], [], [5, 6], [4, 7], [8], [9], [10], [10], [], [11], [12, 13, 14]] (fun u => Kp W u)
            [fun (y : Value) (u : World) => y = (.string a0 : Value),
             fun (y : Value) (u : World) => y = (.int .i64 (a : Int) : Value),
             fun (y : Value) (u : World) => y = (.string s1 : Value),
             fun (y : Value) (u : World) => y = (.string bl : Value),
             fun (y : Value) (u : World) => y = (.string (s1 ++ bl) : Value),
             fun (y : Value) (u : World) => y = (.string a0 : Value),
             fun (y : Value) (u : World) => y = (.int .i64 (a : Int) : Value),
             fun (y : Value) (u : World) => y = (.string s3 : Value),
             fun (y : Value) (u : World) => y = (.string (s1 ++ bl ++ s3) : Value),
             fun (y : Value) (u : World) => ∃ v', y = .tuple #[v', .agg #[.int .i64 0, .int .i64 0, .int .i64 0]] ∧ OwnL CeToken 4 41 u W.heap.size v' l',
             fun (y : Value) (u : World) => ∃ v', y = .tuple #[v', .agg #[.int .i64 0, .int .i64 0, .int .i64 0]] ∧ OwnL CeToken 4 41 u W.heap.size v' l',
             fun (y : Value) (u : World) => OwnL CeToken 4 41 u W.heap.size y l',
             fun (y : Value) (u : World) => y = (.agg #[.int .i64 0, .int .i64 0, .int .i64 0] : Value),
             fun (y : Value) (u : World) => ∃ b, y = .pointer (some ⟨b, 0, none⟩) ∧ W.heap.size ≤ b ∧ u.heap[b]? = some (Obj.cells #[.int .i64 0, .int .i64 0, .int .i64 0] 36 (0, 0)),
             fun (y : Value) (u : World) => OwnL CeToken 4 41 u W.heap.size y l']
            (by kernel_rfl) (by kernel_rfl) (by kernel_rfl) (by kernel_rfl) (by kernel_rfl) (by kernel_rfl) ((Kp.refl _).drew) (fun _ _ hk h => h.trans hk) ⟨fun _ _ _ _ h => h, fun _ _ _ _ h => h, fun _ _ _ _ h => h, fun _ _ _ _ h => h, fun _ _ _ _ h => h, fun _ _ _ _ h => h, fun _ _ _ _ h => h, fun _ _ _ _ h => h, fun _ _ _ _ h => h, fun _ _ _ hk h => by obtain ⟨v', h1, h2⟩ := h; exact ⟨v', h1, h2.kp CeToken.kp hk⟩, fun _ _ _ hk h => by obtain ⟨v', h1, h2⟩ := h; exact ⟨v', h1, h2.kp CeToken.kp hk⟩, fun _ _ _ hk h => h.kp CeToken.kp hk, fun _ _ _ _ h => h, fun _ _ _ hk h => by obtain ⟨b, h1, h2, h3⟩ := h; exact ⟨b, h1, h2, (hk.block b (blk_lt h3)).trans h3⟩, fun _ _ _ hk h => h.kp CeToken.kp hk, trivial⟩ ⟨?sb0, ?sb1, ?sb2, ?sb3, ?sb4, ?sb5, ?sb6, ?sb7, ?sb8, ?sb9, ?sb10, ?sb11, ?sb12, ?sb13, ?sb14, trivial⟩ ⟨?hEb, trivial⟩
          case sb0 =>
            intro x u hg hd K hK
            clear hd
            refine ⟨?_⟩
            simp only [putsFrom, Act.put, List.setIfInBounds_toArray, List.set_cons_zero, List.set_cons_succ, Nat.reduceAdd] at hK ⊢
            go_simp
            exact hK.out _ _ (Kp.refl _) rfl
          case sb1 =>
            intro x u hg hd K hK
            clear hd
            refine ⟨?_⟩
            simp only [putsFrom, Act.put, List.setIfInBounds_toArray, List.set_cons_zero, List.set_cons_succ, Nat.reduceAdd] at hK ⊢
            go_simp
            exact hK.out _ _ (Kp.refl _) rfl
          case sb2 =>
            intro x u hg hd K hK
            have d0 : (x 0) = .string a0 := And.left hd
            have d1 : (x 1) = .int .i64 (a : Int) := And.left (And.right hd)
            clear hd
            refine ⟨?_⟩
            simp only [putsFrom, Act.put, List.setIfInBounds_toArray, List.set_cons_zero, List.set_cons_succ, Nat.reduceAdd, d0, d1] at hK ⊢
            go_simp
            exact hK.out _ _ (Kp.refl _) rfl
          case sb3 =>
            intro x u hg hd K hK
            clear hd
            refine ⟨?_⟩
            simp only [putsFrom, Act.put, List.setIfInBounds_toArray, List.set_cons_zero, List.set_cons_succ, Nat.reduceAdd] at hK ⊢
            go_simp
            exact hK.out _ _ (Kp.refl _) rfl
          case sb4 =>
            intro x u hg hd K hK
            have d2 : (x 2) = .string s1 := And.left hd
            have d3 : (x 3) = .string bl := And.left (And.right hd)
            clear hd
            refine ⟨?_⟩
            simp only [putsFrom, Act.put, List.setIfInBounds_toArray, List.set_cons_zero, List.set_cons_succ, Nat.reduceAdd, d2, d3] at hK ⊢
            go_simp
            exact hK.out _ _ (Kp.refl _) rfl
          case sb5 =>
            intro x u hg hd K hK
            clear hd
            refine ⟨?_⟩
            simp only [putsFrom, Act.put, List.setIfInBounds_toArray, List.set_cons_zero, List.set_cons_succ, Nat.reduceAdd] at hK ⊢
            go_simp
            exact hK.out _ _ (Kp.refl _) rfl
          case sb6 =>
            intro x u hg hd K hK
            clear hd
            refine ⟨?_⟩
            simp only [putsFrom, Act.put, List.setIfInBounds_toArray, List.set_cons_zero, List.set_cons_succ, Nat.reduceAdd] at hK ⊢
            go_simp
            exact hK.out _ _ (Kp.refl _) rfl
          case sb7 =>
            intro x u hg hd K hK
            have d5 : (x 5) = .string a0 := And.left hd
            have d6 : (x 6) = .int .i64 (a : Int) := And.left (And.right hd)
            clear hd
            refine ⟨?_⟩
            simp only [putsFrom, Act.put, List.setIfInBounds_toArray, List.set_cons_zero, List.set_cons_succ, Nat.reduceAdd, d5, d6] at hK ⊢
            go_simp
            exact hK.out _ _ (Kp.refl _) rfl
          case sb8 =>
            intro x u hg hd K hK
            have d4 : (x 4) = .string (s1 ++ bl) := And.left hd
            have d7 : (x 7) = .string s3 := And.left (And.right hd)
            clear hd
            refine ⟨?_⟩
            simp only [putsFrom, Act.put, List.setIfInBounds_toArray, List.set_cons_zero, List.set_cons_succ, Nat.reduceAdd, d4, d7] at hK ⊢
            go_simp
            exact hK.out _ _ (Kp.refl _) rfl
          case sb9 =>
            intro x u hg hd K hK
            have d8 : (x 8) = .string (s1 ++ bl ++ s3) := And.left hd
            clear hd
            refine ⟨?_⟩
            simp only [putsFrom, Act.put, List.setIfInBounds_toArray, List.set_cons_zero, List.set_cons_succ, Nat.reduceAdd, d8] at hK ⊢
            go_simp
            go_at_call 17
            have hc := (toks_is u (s1 ++ bl ++ s3) l' HT'.out)
            refine hc.mono ?_
            clear hc
            rintro e u' ⟨⟨v', rfl, ho⟩, hk⟩
            dsimp only
            exact hK.out _ _ hk ⟨v', rfl, OwnL.base_ hg.le ho⟩
          case sb10 =>
            intro x u hg hd K hK
            have d9 : ∃ v', (x 9) = .tuple #[v', .agg #[.int .i64 0, .int .i64 0, .int .i64 0]] ∧ OwnL CeToken 4 41 u W.heap.size v' l' := And.left hd
            clear hd
            refine ⟨?_⟩
            simp only [putsFrom, Act.put, List.setIfInBounds_toArray, List.set_cons_zero, List.set_cons_succ, Nat.reduceAdd] at hK ⊢
            go_simp
            exact hK.out _ _ (Kp.refl _) d9
          case sb11 =>
            intro x u hg hd K hK
            have d10 : ∃ v', (x 10) = .tuple #[v', .agg #[.int .i64 0, .int .i64 0, .int .i64 0]] ∧ OwnL CeToken 4 41 u W.heap.size v' l' := And.left hd
            clear hd
            obtain ⟨v', e9, ho9⟩ := d10
            refine ⟨?_⟩
            simp only [putsFrom, Act.put, List.setIfInBounds_toArray, List.set_cons_zero, List.set_cons_succ, Nat.reduceAdd, e9] at hK ⊢
            go_simp
            exact hK.out _ _ (Kp.refl _) ho9
          case sb12 =>
            intro x u hg hd K hK
            have d10 : ∃ v', (x 10) = .tuple #[v', .agg #[.int .i64 0, .int .i64 0, .int .i64 0]] ∧ OwnL CeToken 4 41 u W.heap.size v' l' := And.left hd
            clear hd
            obtain ⟨v', e9, ho9⟩ := d10
            refine ⟨?_⟩
            simp only [putsFrom, Act.put, List.setIfInBounds_toArray, List.set_cons_zero, List.set_cons_succ, Nat.reduceAdd, e9] at hK ⊢
            go_simp
            exact hK.out _ _ (Kp.refl _) rfl
          case sb13 =>
            intro x u hg hd K hK
            clear hd
            refine ⟨?_⟩
            simp only [putsFrom, Act.put, List.setIfInBounds_toArray, List.set_cons_zero, List.set_cons_succ, Nat.reduceAdd] at hK ⊢
            go_simp
            exact hK.out _ _ ((Kp.refl _).alloc _) ⟨_, rfl, hg.le, blk_new _ _⟩
          case sb14 =>
            intro x u hg hd K hK
            have d11 : OwnL CeToken 4 41 u W.heap.size (x 11) l' := And.left hd
            clear hd
            refine ⟨?_⟩
            simp only [putsFrom, Act.put, List.setIfInBounds_toArray, List.set_cons_zero, List.set_cons_succ, Nat.reduceAdd] at hK ⊢
            go_simp
            exact hK.out _ _ (Kp.refl _) d11
          intro x u hg he K hK
          have d0 : (x 0) = .string a0 := And.left he
          have d1 : (x 1) = .int .i64 (a : Int) := And.left (And.right he)
          have d2 : (x 2) = .string s1 := And.left (And.right (And.right he))
          have d3 : (x 3) = .string bl := And.left (And.right (And.right (And.right he)))
          have d4 : (x 4) = .string (s1 ++ bl) := And.left (And.right (And.right (And.right (And.right he))))
          have d5 : (x 5) = .string a0 := And.left (And.right (And.right (And.right (And.right (And.right he)))))
          have d6 : (x 6) = .int .i64 (a : Int) := And.left (And.right (And.right (And.right (And.right (And.right (And.right he))))))
          have d7 : (x 7) = .string s3 := And.left (And.right (And.right (And.right (And.right (And.right (And.right (And.right he)))))))
          have d8 : (x 8) = .string (s1 ++ bl ++ s3) := And.left (And.right (And.right (And.right (And.right (And.right (And.right (And.right (And.right he))))))))
          have d9 : ∃ v', (x 9) = .tuple #[v', .agg #[.int .i64 0, .int .i64 0, .int .i64 0]] ∧ OwnL CeToken 4 41 u W.heap.size v' l' := And.left (And.right (And.right (And.right (And.right (And.right (And.right (And.right (And.right (And.right he)))))))))
          have d10 : ∃ v', (x 10) = .tuple #[v', .agg #[.int .i64 0, .int .i64 0, .int .i64 0]] ∧ OwnL CeToken 4 41 u W.heap.size v' l' := And.left (And.right (And.right (And.right (And.right (And.right (And.right (And.right (And.right (And.right (And.right he))))))))))
          have d11 : OwnL CeToken 4 41 u W.heap.size (x 11) l' := And.left (And.right (And.right (And.right (And.right (And.right (And.right (And.right (And.right (And.right (And.right (And.right he)))))))))))
          have d12 : (x 12) = .agg #[.int .i64 0, .int .i64 0, .int .i64 0] := And.left (And.right (And.right (And.right (And.right (And.right (And.right (And.right (And.right (And.right (And.right (And.right (And.right he))))))))))))
          have d13 : ∃ b, (x 13) = .pointer (some ⟨b, 0, none⟩) ∧ W.heap.size ≤ b ∧ u.heap[b]? = some (Obj.cells #[.int .i64 0, .int .i64 0, .int .i64 0] 36 (0, 0)) := And.left (And.right (And.right (And.right (And.right (And.right (And.right (And.right (And.right (And.right (And.right (And.right (And.right (And.right he)))))))))))))
          have d14 : OwnL CeToken 4 41 u W.heap.size (x 14) l' := And.left (And.right (And.right (And.right (And.right (And.right (And.right (And.right (And.right (And.right (And.right (And.right (And.right (And.right (And.right he))))))))))))))
          clear he
          obtain ⟨b2, e13, hb2, hblk⟩ := d13
          have p0 := blk_cell (o := 0) (v := .int .i64 0) hblk rfl
          have p1 := blk_cell (o := 1) (v := .int .i64 0) hblk rfl
          have p2 := blk_cell (o := 2) (v := .int .i64 0) hblk rfl
          have f0 := blk_free (o := 0) hblk
          have f1 := blk_free (o := 1) hblk
          have f2 := blk_free (o := 2) hblk
          refine ⟨?_⟩
          simp only [putsFrom, Act.put, List.setIfInBounds_toArray, List.set_cons_zero, List.set_cons_succ, Nat.reduceAdd, d0, d1, d2, d3, d4, d5, d6, d7, d8, d12] at hK ⊢
          go_simp
          simp only [e13] at hK
          refine hK.out undef _ ⟨?_⟩
          clear hK
          clear d0 d1 d2 d3 d4 d5 d6 d7 d8 d12
          obtain ⟨A2, c2, e14, _⟩ := (OwnL.rd d14).form
          rw [e14] at d14 ⊢
          have t0' := tok_touch d14 (rowTouch (o := 0) hblk (.int .i64 0)) (by decide)
          have t1' := tok_touch t0' (rowTouch (o := 1) (blk_set hblk _) (.int .i64 0)) (by decide)
          have t2' := tok_touch t1' (rowTouch (o := 2) (blk_set (blk_set hblk _) _) (.int .i64 0)) (by decide)
          have HOU := hid (OwnL.rd t2')
          have HBU := hid (blk_set (o := 2) (blk_set (o := 1) (blk_set (o := 0) hblk (.int .i64 0)) (.int .i64 0)) (.int .i64 0))
          have HKU := hid (((hg.setCell (p := ⟨b2, 0, none⟩) hb2 (.int .i64 0)).setCell (p := ⟨b2, 1, none⟩) hb2 (.int .i64 0)).setCell (p := ⟨b2, 2, none⟩) hb2 (.int .i64 0))
          have HLZ := hid (show l.length ≤ 3000 by have := HL2.out; omega)
          clear d9 d10 d11 d14 t0' t1' t2' e13 e14 hblk p0 p1 p2 f0 f1 f2 hg ad1 ad2
          generalize (((u.setCell ⟨b2, 0, none⟩ (.int .i64 0)).setCell ⟨b2, 1, none⟩ (.int .i64 0)).setCell ⟨b2, 2, none⟩ (.int .i64 0)) = U at HOU HBU HKU ⊢
          go_wp2_with first | (go_at_call 18; go_must (refine (three_any _).mono ?_); rintro e w9 ⟨rfl, hk9⟩; have HK9 := hid hk9; have r2 := blk_cell (o := 0) (v := .int .i64 0) (kp_blk hk9 HBU.out) rfl; clear hk9) | (go_at_call 20; go_must (refine (alike_yes _ _ _ l l' false (HO.out.kp CeToken.kp (HKA.out.trans (HKU.out.trans HK9.out))) (HOU.out.kp CeToken.kp HK9.out) HLK.out HLZ.out).mono ?_); rintro e w10 ⟨rfl, hk10⟩)
          go_ret
          exact ⟨rfl, HK1.out.trans (HKA.out.trans (HKU.out.trans (HK9.out.trans hk10)))⟩
        · have i5 : ¬ (a : Int) < (a0.size : Int) := by omega
          rw [HFP.out]
          dsimp only
          have q1 : ¬ t.line < t.line := by omega
          have q4 : ¬ t.col < t.col := by omega
          have hsb := spotV_bd a2 8 (by omega)
          have hsp : ∀ w, _ := fun w => spot_any a2 8 w (by omega) (by omega)
          obtain ⟨j, hj⟩ : ∃ j : Nat, spotV a2 8 = (j : Int) := ⟨(spotV a2 8).toNat, by omega⟩
          rw [hj] at hsb hsp
          have HJ := hid (show j < 8 by omega)
          have j0 : (0 : Int) ≤ (j : Int) := by omega
          have j1 : (j : Int) ≤ 8 := by omega
          have k0 : (0 : Int) ≤ (a : Int) := by omega
          have k1 : (a : Int) ≤ (a0.size : Int) := by have := HFS.out; omega
          have HSQ := hid hsp
          obtain ⟨bl, hbl'⟩ : ∃ bl, (⟨#[32, 32, 32, 32, 32, 32, 32, 32]⟩ : ByteArray).extract 0 j = bl := ⟨_, rfl⟩
          obtain ⟨s1, hs1⟩ : ∃ s1, a0.extract 0 a = s1 := ⟨_, rfl⟩
          obtain ⟨s3, hs3⟩ : ∃ s3, a0.extract a a0.size = s3 := ⟨_, rfl⟩
          have hl' : (s1 ++ bl ++ s3).data.toList = a0.data.toList.take d.pos ++ (List.replicate j 32 ++ restOf a0 d.pos) := by
            have e1 : s1.data.toList = a0.data.toList.take a := by rw [← ByteArray.toList_eq, ← hs1]; exact ext_take a0 a
            have e2 : bl.data.toList = List.replicate j 32 := by rw [← hbl']; exact eight j HJ.out
            have e3 : s3.data.toList = restOf a0 a := by
              have e := ext_rest a0 a (a0.size - a)
              rw [show a + (a0.size - a) = a0.size by have := HFS.out; omega, List.take_of_length_le (by rw [rest_len]; exact Nat.le_refl _), hs3] at e
              exact e
            rw [HFF.out]
            simp [e1, e2, e3]
          have hz : (s1 ++ bl ++ s3).size ≤ 8000 := by
            have e := congrArg List.length hl'
            have e1 : (s1 ++ bl ++ s3).data.toList.length = (s1 ++ bl ++ s3).size := by rw [Array.length_toList]; rfl
            rw [e1, List.length_append, List.length_append, List.length_replicate, rest_len, List.length_take, Array.length_toList, HFF.out] at e
            have e2 : a0.data.size = a0.size := rfl
            have := HBIG.out; have := HJ.out; have := HFS.out; omega
          have hsum : s1.size + bl.size + s3.size ≤ 8000 := by have := hz; simp only [ByteArray.size_append] at this; exact this
          have ad1 : ∀ w, Sem.run Try.prog (Op.stringOp .add s1 bl) w = .ok (.string (s1 ++ bl)) w := fun w => run_string_add_sum w _ _ (by omega)
          have ad2 : ∀ w, Sem.run Try.prog (Op.stringOp .add (s1 ++ bl) s3) w = .ok (.string (s1 ++ bl ++ s3)) w := fun w => run_string_add_sum w _ _ (by rw [ByteArray.size_append]; omega)
          clear hsum
          obtain ⟨l', hT', hlk⟩ := spaces_law HT.out HD.out hl' hz
          have HT' := hid hT'
          have HLK := hid (show Like l l' false from .inl hlk)
          clear hl' hz hT' hlk hsb hsp hj haf hlf
          go_upto_region 13 with (go_at_call 19; go_must (refine (HSQ.out _).mono ?_); rintro e w9 ⟨rfl, rfl⟩)
          clear q2 q3
          refine wp_region_last 15 [[], [], [0, 1], [], [2, 3], [], [], [5, 6], [4, 7], [8], [9], [10], [10], [], [11], [12, 13, 14]] (fun u => Kp W u)
            [fun (y : Value) (u : World) => y = (.string a0 : Value),
             fun (y : Value) (u : World) => y = (.int .i64 (a : Int) : Value),
             fun (y : Value) (u : World) => y = (.string s1 : Value),
             fun (y : Value) (u : World) => y = (.string bl : Value),
             fun (y : Value) (u : World) => y = (.string (s1 ++ bl) : Value),
             fun (y : Value) (u : World) => y = (.string a0 : Value),
             fun (y : Value) (u : World) => y = (.int .i64 (a : Int) : Value),
             fun (y : Value) (u : World) => y = (.string s3 : Value),
             fun (y : Value) (u : World) => y = (.string (s1 ++ bl ++ s3) : Value),
             fun (y : Value) (u : World) => ∃ v', y = .tuple #[v', .agg #[.int .i64 0, .int .i64 0, .int .i64 0]] ∧ OwnL CeToken 4 41 u W.heap.size v' l',
             fun (y : Value) (u : World) => ∃ v', y = .tuple #[v', .agg #[.int .i64 0, .int .i64 0, .int .i64 0]] ∧ OwnL CeToken 4 41 u W.heap.size v' l',
             fun (y : Value) (u : World) => OwnL CeToken 4 41 u W.heap.size y l',
             fun (y : Value) (u : World) => y = (.agg #[.int .i64 0, .int .i64 0, .int .i64 0] : Value),
             fun (y : Value) (u : World) => ∃ b, y = .pointer (some ⟨b, 0, none⟩) ∧ W.heap.size ≤ b ∧ u.heap[b]? = some (Obj.cells #[.int .i64 0, .int .i64 0, .int .i64 0] 36 (0, 0)),
             fun (y : Value) (u : World) => OwnL CeToken 4 41 u W.heap.size y l']
            (by kernel_rfl) (by kernel_rfl) (by kernel_rfl) (by kernel_rfl) (by kernel_rfl) (by kernel_rfl) ((Kp.refl _).drew) (fun _ _ hk h => h.trans hk) ⟨fun _ _ _ _ h => h, fun _ _ _ _ h => h, fun _ _ _ _ h => h, fun _ _ _ _ h => h, fun _ _ _ _ h => h, fun _ _ _ _ h => h, fun _ _ _ _ h => h, fun _ _ _ _ h => h, fun _ _ _ _ h => h, fun _ _ _ hk h => by obtain ⟨v', h1, h2⟩ := h; exact ⟨v', h1, h2.kp CeToken.kp hk⟩, fun _ _ _ hk h => by obtain ⟨v', h1, h2⟩ := h; exact ⟨v', h1, h2.kp CeToken.kp hk⟩, fun _ _ _ hk h => h.kp CeToken.kp hk, fun _ _ _ _ h => h, fun _ _ _ hk h => by obtain ⟨b, h1, h2, h3⟩ := h; exact ⟨b, h1, h2, (hk.block b (blk_lt h3)).trans h3⟩, fun _ _ _ hk h => h.kp CeToken.kp hk, trivial⟩ ⟨?sc0, ?sc1, ?sc2, ?sc3, ?sc4, ?sc5, ?sc6, ?sc7, ?sc8, ?sc9, ?sc10, ?sc11, ?sc12, ?sc13, ?sc14, trivial⟩ ⟨?hEc, trivial⟩
          case sc0 =>
            intro x u hg hd K hK
            clear hd
            refine ⟨?_⟩
            simp only [putsFrom, Act.put, List.setIfInBounds_toArray, List.set_cons_zero, List.set_cons_succ, Nat.reduceAdd] at hK ⊢
            go_simp
            exact hK.out _ _ (Kp.refl _) rfl
          case sc1 =>
            intro x u hg hd K hK
            clear hd
            refine ⟨?_⟩
            simp only [putsFrom, Act.put, List.setIfInBounds_toArray, List.set_cons_zero, List.set_cons_succ, Nat.reduceAdd] at hK ⊢
            go_simp
            exact hK.out _ _ (Kp.refl _) rfl
          case sc2 =>
            intro x u hg hd K hK
            have d0 : (x 0) = .string a0 := And.left hd
            have d1 : (x 1) = .int .i64 (a : Int) := And.left (And.right hd)
            clear hd
            refine ⟨?_⟩
            simp only [putsFrom, Act.put, List.setIfInBounds_toArray, List.set_cons_zero, List.set_cons_succ, Nat.reduceAdd, d0, d1] at hK ⊢
            go_simp
            exact hK.out _ _ (Kp.refl _) rfl
          case sc3 =>
            intro x u hg hd K hK
            clear hd
            refine ⟨?_⟩
            simp only [putsFrom, Act.put, List.setIfInBounds_toArray, List.set_cons_zero, List.set_cons_succ, Nat.reduceAdd] at hK ⊢
            go_simp
            exact hK.out _ _ (Kp.refl _) rfl
          case sc4 =>
            intro x u hg hd K hK
            have d2 : (x 2) = .string s1 := And.left hd
            have d3 : (x 3) = .string bl := And.left (And.right hd)
            clear hd
            refine ⟨?_⟩
            simp only [putsFrom, Act.put, List.setIfInBounds_toArray, List.set_cons_zero, List.set_cons_succ, Nat.reduceAdd, d2, d3] at hK ⊢
            go_simp
            exact hK.out _ _ (Kp.refl _) rfl
          case sc5 =>
            intro x u hg hd K hK
            clear hd
            refine ⟨?_⟩
            simp only [putsFrom, Act.put, List.setIfInBounds_toArray, List.set_cons_zero, List.set_cons_succ, Nat.reduceAdd] at hK ⊢
            go_simp
            exact hK.out _ _ (Kp.refl _) rfl
          case sc6 =>
            intro x u hg hd K hK
            clear hd
            refine ⟨?_⟩
            simp only [putsFrom, Act.put, List.setIfInBounds_toArray, List.set_cons_zero, List.set_cons_succ, Nat.reduceAdd] at hK ⊢
            go_simp
            exact hK.out _ _ (Kp.refl _) rfl
          case sc7 =>
            intro x u hg hd K hK
            have d5 : (x 5) = .string a0 := And.left hd
            have d6 : (x 6) = .int .i64 (a : Int) := And.left (And.right hd)
            clear hd
            refine ⟨?_⟩
            simp only [putsFrom, Act.put, List.setIfInBounds_toArray, List.set_cons_zero, List.set_cons_succ, Nat.reduceAdd, d5, d6] at hK ⊢
            go_simp
            exact hK.out _ _ (Kp.refl _) rfl
          case sc8 =>
            intro x u hg hd K hK
            have d4 : (x 4) = .string (s1 ++ bl) := And.left hd
            have d7 : (x 7) = .string s3 := And.left (And.right hd)
            clear hd
            refine ⟨?_⟩
            simp only [putsFrom, Act.put, List.setIfInBounds_toArray, List.set_cons_zero, List.set_cons_succ, Nat.reduceAdd, d4, d7] at hK ⊢
            go_simp
            exact hK.out _ _ (Kp.refl _) rfl
          case sc9 =>
            intro x u hg hd K hK
            have d8 : (x 8) = .string (s1 ++ bl ++ s3) := And.left hd
            clear hd
            refine ⟨?_⟩
            simp only [putsFrom, Act.put, List.setIfInBounds_toArray, List.set_cons_zero, List.set_cons_succ, Nat.reduceAdd, d8] at hK ⊢
            go_simp
            go_at_call 17
            have hc := (toks_is u (s1 ++ bl ++ s3) l' HT'.out)
            refine hc.mono ?_
            clear hc
            rintro e u' ⟨⟨v', rfl, ho⟩, hk⟩
            dsimp only
            exact hK.out _ _ hk ⟨v', rfl, OwnL.base_ hg.le ho⟩
          case sc10 =>
            intro x u hg hd K hK
            have d9 : ∃ v', (x 9) = .tuple #[v', .agg #[.int .i64 0, .int .i64 0, .int .i64 0]] ∧ OwnL CeToken 4 41 u W.heap.size v' l' := And.left hd
            clear hd
            refine ⟨?_⟩
            simp only [putsFrom, Act.put, List.setIfInBounds_toArray, List.set_cons_zero, List.set_cons_succ, Nat.reduceAdd] at hK ⊢
            go_simp
            exact hK.out _ _ (Kp.refl _) d9
          case sc11 =>
            intro x u hg hd K hK
            have d10 : ∃ v', (x 10) = .tuple #[v', .agg #[.int .i64 0, .int .i64 0, .int .i64 0]] ∧ OwnL CeToken 4 41 u W.heap.size v' l' := And.left hd
            clear hd
            obtain ⟨v', e9, ho9⟩ := d10
            refine ⟨?_⟩
            simp only [putsFrom, Act.put, List.setIfInBounds_toArray, List.set_cons_zero, List.set_cons_succ, Nat.reduceAdd, e9] at hK ⊢
            go_simp
            exact hK.out _ _ (Kp.refl _) ho9
          case sc12 =>
            intro x u hg hd K hK
            have d10 : ∃ v', (x 10) = .tuple #[v', .agg #[.int .i64 0, .int .i64 0, .int .i64 0]] ∧ OwnL CeToken 4 41 u W.heap.size v' l' := And.left hd
            clear hd
            obtain ⟨v', e9, ho9⟩ := d10
            refine ⟨?_⟩
            simp only [putsFrom, Act.put, List.setIfInBounds_toArray, List.set_cons_zero, List.set_cons_succ, Nat.reduceAdd, e9] at hK ⊢
            go_simp
            exact hK.out _ _ (Kp.refl _) rfl
          case sc13 =>
            intro x u hg hd K hK
            clear hd
            refine ⟨?_⟩
            simp only [putsFrom, Act.put, List.setIfInBounds_toArray, List.set_cons_zero, List.set_cons_succ, Nat.reduceAdd] at hK ⊢
            go_simp
            exact hK.out _ _ ((Kp.refl _).alloc _) ⟨_, rfl, hg.le, blk_new _ _⟩
          case sc14 =>
            intro x u hg hd K hK
            have d11 : OwnL CeToken 4 41 u W.heap.size (x 11) l' := And.left hd
            clear hd
            refine ⟨?_⟩
            simp only [putsFrom, Act.put, List.setIfInBounds_toArray, List.set_cons_zero, List.set_cons_succ, Nat.reduceAdd] at hK ⊢
            go_simp
            exact hK.out _ _ (Kp.refl _) d11
          intro x u hg he K hK
          have d0 : (x 0) = .string a0 := And.left he
          have d1 : (x 1) = .int .i64 (a : Int) := And.left (And.right he)
          have d2 : (x 2) = .string s1 := And.left (And.right (And.right he))
          have d3 : (x 3) = .string bl := And.left (And.right (And.right (And.right he)))
          have d4 : (x 4) = .string (s1 ++ bl) := And.left (And.right (And.right (And.right (And.right he))))
          have d5 : (x 5) = .string a0 := And.left (And.right (And.right (And.right (And.right (And.right he)))))
          have d6 : (x 6) = .int .i64 (a : Int) := And.left (And.right (And.right (And.right (And.right (And.right (And.right he))))))
          have d7 : (x 7) = .string s3 := And.left (And.right (And.right (And.right (And.right (And.right (And.right (And.right he)))))))
          have d8 : (x 8) = .string (s1 ++ bl ++ s3) := And.left (And.right (And.right (And.right (And.right (And.right (And.right (And.right (And.right he))))))))
          have d9 : ∃ v', (x 9) = .tuple #[v', .agg #[.int .i64 0, .int .i64 0, .int .i64 0]] ∧ OwnL CeToken 4 41 u W.heap.size v' l' := And.left (And.right (And.right (And.right (And.right (And.right (And.right (And.right (And.right (And.right he)))))))))
          have d10 : ∃ v', (x 10) = .tuple #[v', .agg #[.int .i64 0, .int .i64 0, .int .i64 0]] ∧ OwnL CeToken 4 41 u W.heap.size v' l' := And.left (And.right (And.right (And.right (And.right (And.right (And.right (And.right (And.right (And.right (And.right he))))))))))
          have d11 : OwnL CeToken 4 41 u W.heap.size (x 11) l' := And.left (And.right (And.right (And.right (And.right (And.right (And.right (And.right (And.right (And.right (And.right (And.right he)))))))))))
          have d12 : (x 12) = .agg #[.int .i64 0, .int .i64 0, .int .i64 0] := And.left (And.right (And.right (And.right (And.right (And.right (And.right (And.right (And.right (And.right (And.right (And.right (And.right he))))))))))))
          have d13 : ∃ b, (x 13) = .pointer (some ⟨b, 0, none⟩) ∧ W.heap.size ≤ b ∧ u.heap[b]? = some (Obj.cells #[.int .i64 0, .int .i64 0, .int .i64 0] 36 (0, 0)) := And.left (And.right (And.right (And.right (And.right (And.right (And.right (And.right (And.right (And.right (And.right (And.right (And.right (And.right he)))))))))))))
          have d14 : OwnL CeToken 4 41 u W.heap.size (x 14) l' := And.left (And.right (And.right (And.right (And.right (And.right (And.right (And.right (And.right (And.right (And.right (And.right (And.right (And.right (And.right he))))))))))))))
          clear he
          obtain ⟨b2, e13, hb2, hblk⟩ := d13
          have p0 := blk_cell (o := 0) (v := .int .i64 0) hblk rfl
          have p1 := blk_cell (o := 1) (v := .int .i64 0) hblk rfl
          have p2 := blk_cell (o := 2) (v := .int .i64 0) hblk rfl
          have f0 := blk_free (o := 0) hblk
          have f1 := blk_free (o := 1) hblk
          have f2 := blk_free (o := 2) hblk
          refine ⟨?_⟩
          simp only [putsFrom, Act.put, List.setIfInBounds_toArray, List.set_cons_zero, List.set_cons_succ, Nat.reduceAdd, d0, d1, d2, d3, d4, d5, d6, d7, d8, d12] at hK ⊢
          go_simp
          simp only [e13] at hK
          refine hK.out undef _ ⟨?_⟩
          clear hK
          clear d0 d1 d2 d3 d4 d5 d6 d7 d8 d12
          obtain ⟨A2, c2, e14, _⟩ := (OwnL.rd d14).form
          rw [e14] at d14 ⊢
          have t0' := tok_touch d14 (rowTouch (o := 0) hblk (.int .i64 0)) (by decide)
          have t1' := tok_touch t0' (rowTouch (o := 1) (blk_set hblk _) (.int .i64 0)) (by decide)
          have t2' := tok_touch t1' (rowTouch (o := 2) (blk_set (blk_set hblk _) _) (.int .i64 0)) (by decide)
          have HOU := hid (OwnL.rd t2')
          have HBU := hid (blk_set (o := 2) (blk_set (o := 1) (blk_set (o := 0) hblk (.int .i64 0)) (.int .i64 0)) (.int .i64 0))
          have HKU := hid (((hg.setCell (p := ⟨b2, 0, none⟩) hb2 (.int .i64 0)).setCell (p := ⟨b2, 1, none⟩) hb2 (.int .i64 0)).setCell (p := ⟨b2, 2, none⟩) hb2 (.int .i64 0))
          have HLZ := hid (show l.length ≤ 3000 by have := HL2.out; omega)
          clear d9 d10 d11 d14 t0' t1' t2' e13 e14 hblk p0 p1 p2 f0 f1 f2 hg ad1 ad2
          generalize (((u.setCell ⟨b2, 0, none⟩ (.int .i64 0)).setCell ⟨b2, 1, none⟩ (.int .i64 0)).setCell ⟨b2, 2, none⟩ (.int .i64 0)) = U at HOU HBU HKU ⊢
          go_wp2_with first | (go_at_call 18; go_must (refine (three_any _).mono ?_); rintro e w9 ⟨rfl, hk9⟩; have HK9 := hid hk9; have r2 := blk_cell (o := 0) (v := .int .i64 0) (kp_blk hk9 HBU.out) rfl; clear hk9) | (go_at_call 20; go_must (refine (alike_yes _ _ _ l l' false (HO.out.kp CeToken.kp (HKA.out.trans (HKU.out.trans HK9.out))) (HOU.out.kp CeToken.kp HK9.out) HLK.out HLZ.out).mono ?_); rintro e w10 ⟨rfl, hk10⟩)
          go_ret
          exact ⟨rfl, HK1.out.trans (HKA.out.trans (HKU.out.trans (HK9.out.trans hk10)))⟩
  · have t0 : (er.1 != 0) = true := by rw [bne_iff_ne]; omega
    clear hT e1 e2 hk1 w0
    go_wp2_with (go_at_call 18; go_must (refine (three_any _).mono ?_); rintro e w9 ⟨rfl, hk9⟩)
    go_ret
    exact ⟨rfl, HK1.out.trans (((Kp.refl _).alloc _).trans hk9)⟩
/-! ### The row's step (the guide's frame, written by program) -/
set_option maxRecDepth 100000 in
theorem lifted (os : Os) (started : os.Started) (H : Type) (enc : TypeId × Value → H) :
    ReturnsInHanded {} Try.checked os 6 .any (Rows.scanSpacesSpec.pre6 enc Try.prog Try.f6 Rows.scanSpacesRow.domain false) (Rows.scanSpacesSpec.post enc Try.prog Try.f6 false true false false) := by
  refine returnsInHanded_of_change_sized (C := Try.checked) own started (by kernel_rfl) Try.func6
    (ChangeSpec.witness6 (enc := enc) (C := Try.checked) false ⟨#[], #[.string ⟨#[]⟩, .int .i64 0, .int .i64 0], []⟩ 8 (by kernel_rfl) (by kernel_rfl) (by kernel_rfl) (by kernel_rfl)) ?_
  intro W base args ds gs before hval0 hW _ hsz0 _
  have hsz : (DataW.weightsEach Try.prog (Try.f6.params.toList ++ Rows.scanSpacesSpec.plain.varTypes Try.prog) (ds ++ gs)).all (· ≤ reachBytes) = true := hsz0
  clear hsz0
  have hval : ∀ (j : Nat) t v, Try.f6.params[j]? = some t → args[j]? = some v → Value.okWide Try.prog W .any base t v := hval0
  have hW' := hW
  obtain ⟨p, q, hA0, hV, rfl, hfz, hnd⟩ := hW
  have hA : DataW.TrodAll enc Try.prog W 0 (fun _ => true) true Try.f6.params.toList args.toList ds p := hA0
  rw [Try.params6] at hA hval hsz
  obtain ⟨v0, vs0, d0, ds0, p0, q0, hargs, rfl, rfl, h0, r0⟩ := trodAll_cons hA
  obtain ⟨v1, vs1, d1, ds1, p1, q1, rfl, rfl, rfl, h1, r1⟩ := trodAll_cons r0
  obtain ⟨v2, vs2, d2, ds2, p2, q2, rfl, rfl, rfl, h2, r2⟩ := trodAll_cons r1
  obtain ⟨rfl, rfl, rfl⟩ := trodAll_nil r2
  obtain rfl : args = #[v0, v1, v2] := by cases args; simp_all
  obtain ⟨rfl, rfl⟩ := trodVars_none hV
  have k0 := h0
  have lt0 : ∀ x ∈ p0, x.block < W.heap.size := by obtain ⟨m, hm⟩ := k0; exact DataW.trod_lt m _ _ _ hm
  have hz0 : ∀ n ∈ DataW.weights Try.prog 9 d0, n ≤ reachBytes := fun n hn => by
    have := List.all_eq_true.1 hsz _ (DataW.weights_mem_each (j := 0) rfl rfl n hn)
    simpa using this
  obtain ⟨a0, rfl, rfl, rfl, ws0⟩ := open_string Try.underlying9 (hval 0 9 v0 rfl rfl) h0
  have w0 : a0.size ≤ 140737488351232 := by
    have h := hz0 a0.data.toList.length (by simp [DataW.weights])
    rw [Array.length_toList] at h; exact h
  have k1 := h1
  have lt1 : ∀ x ∈ p1, x.block < W.heap.size := by obtain ⟨m, hm⟩ := k1; exact DataW.trod_lt m _ _ _ hm
  obtain ⟨a1, rfl, rfl, rfl, w1⟩ := open_int Try.underlying3 (hval 1 3 v1 rfl rfl) h1
  have k2 := h2
  have lt2 : ∀ x ∈ p2, x.block < W.heap.size := by obtain ⟨m, hm⟩ := k2; exact DataW.trod_lt m _ _ _ hm
  obtain ⟨a2, rfl, rfl, rfl, w2⟩ := open_int Try.underlying3 (hval 2 3 v2 rfl rfl) h2
  clear hA0 hval0
  simp only [List.append_nil] at hW'
  refine (walk a0 a1 a2 W w0 w1 w2).mono fun e W' ⟨he, bel⟩ => ?_
  subst he
  exact ⟨_, rfl, _, _, _, [], _, [], hW', trodAll_mk1 (shut_bool Try.underlying4 _), (trodAll_cons_mk (Below.trod laidOut (by kernel_rfl) (of_decide_eq_true (by kernel_rfl)) k0 bel lt0) (trodAll_cons_mk (Below.trod laidOut (by kernel_rfl) (of_decide_eq_true (by kernel_rfl)) k1 bel lt1) (trodAll_cons_mk (Below.trod laidOut (by kernel_rfl) (of_decide_eq_true (by kernel_rfl)) k2 bel lt2) trodAll_mk0))), rfl, Below.frame bel _, fun h => by cases h⟩

theorem over : Rows.scanSpacesRow.holds Try.pinned (OpenSpec.ofChange Rows.scanSpacesSpec) :=
  OpenClaim.holds_of_wide 6 Try.f6 rfl rfl rfl rfl rfl rfl rfl ⟨rfl, rfl, rfl, rfl, rfl⟩ rfl rfl rfl rfl rfl (by kernel_rfl) Try.func6 (by kernel_rfl)
    (of_decide_eq_true (by kernel_rfl)) (by unfold Func.isWrapper; rw [if_neg (of_decide_eq_false (by kernel_rfl))]; exact ⟨rfl, rfl⟩)
    (fun os started H enc _ => lifted os started H enc)

/-- THE STATEMENT. -/
theorem proved : Rows.ScanSpacesSaid := over
#print axioms proved

end Go.Proofs.Ytlfgofjmcegeiaa.scanSpaces
