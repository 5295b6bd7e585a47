/-
  Package types: function with a hearer (the closure of parts). Condition: the text lies within the reach.
-/
import Derived.Test.YtmcidhjcimjeiaaTypes
import Derived.Test.YtmcidhjcimjeiaaStrL
import Derived.Test.YtmcidhjcimjeiaaRegionT
import Derived.Test.YtmcidhjcimjeiaaOwnL
namespace Go.Proofs.Ytmcidhjcimjeiaa
open Go.RowKit
set_option linter.unusedVariables false

def bsB (l : Bs) : ByteArray := ⟨l.toArray⟩
/-- What stands while a function's type is read: the reader, the text, the parts so far. -/
structure EachSt (B Bl Bt base rp : Nat) (S : ByteArray) (w0 w : World) (a : Nat) (ps : List Bs) : Prop where
  rd : RdrAt w rp S a
  bt : w.heap[Bt]? = some (.cells #[.string S] 9 (0, 0))
  bl : ∃ v, w.heap[Bl]? = some (.cells #[v] 56 (0, 0)) ∧ OwnS w base v (ps.map bsB)
  lt : B ≤ rp ∧ B ≤ Bl ∧ B ≤ Bt ∧ rp < base ∧ Bl < base ∧ Bt < base ∧ rp ≠ Bl ∧ rp ≠ Bt ∧ Bl ≠ Bt
  sz : base ≤ w.heap.size
  bw : Below B w0 w
theorem OwnS.grown {w w' : World} {base : Nat} {v : Value} {ss : List ByteArray} {b : Nat} (h : OwnS w base v ss) (hg : w.grownBy w' (some b)) (hb : b < base) : OwnS w' base v ss := by
  refine World.ownsRow.kept h (row := some b) hg ?_
  rcases h.2 with ⟨rfl, _⟩ | ⟨g, cap, cur, rfl, hg2, _⟩
  · exact .inl rfl
  · refine .inr ?_
    simp only [Value.ownBlock, ne_eq, Option.some.injEq]; omega
theorem EachSt.step {B Bl Bt base rp : Nat} {S : ByteArray} {w0 w w' : World} {a c : Nat} {ps : List Bs} (h : EachSt B Bl Bt base rp S w0 w a ps) (k : Rdk rp S c w w') : EachSt B Bl Bt base rp S w0 w' c ps := by
  obtain ⟨h1, h2, ⟨v, h3, h4⟩, h5, h6, h7⟩ := h
  obtain ⟨k1, k2⟩ := k
  exact ⟨k1, grown_blk k2 h2 (by simp; omega), ⟨v, grown_blk k2 h3 (by simp; omega), h4.grown k2 h5.2.2.2.1⟩, h5, Nat.le_trans h6 k2.size, Below.one h7 k2 h5.1 (Nat.le_trans (by omega) h6)⟩
theorem EachSt.low {B Bl Bt base rp : Nat} {S : ByteArray} {w0 w w' : World} {a : Nat} {ps : List Bs} (h : EachSt B Bl Bt base rp S w0 w a ps) (k : w.grownBy w' (some rp)) : Below B w0 w' :=
  Below.one h.bw k h.lt.1 (Nat.le_trans (by have := h.lt; omega) h.sz)
theorem EachSt.drewN {B Bl Bt base rp : Nat} {S : ByteArray} {w0 w : World} {a : Nat} {ps : List Bs} (h : EachSt B Bl Bt base rp S w0 w a ps) (n : Nat) : EachSt B Bl Bt base rp S w0 (w.drewN n) a ps := h.step ⟨h.rd, grown_drewN _ _ _⟩
theorem EachSt.drew {B Bl Bt base rp : Nat} {S : ByteArray} {w0 w : World} {a : Nat} {ps : List Bs} (h : EachSt B Bl Bt base rp S w0 w a ps) : EachSt B Bl Bt base rp S w0 w.drew a ps := h.step ⟨h.rd, grown_drew _ _⟩
theorem EachSt.step' {B Bl Bt base rp : Nat} {S : ByteArray} {w0 w w' : World} {a : Nat} {ps : List Bs} (h : EachSt B Bl Bt base rp S w0 w a ps) (hk : Kp w w') : EachSt B Bl Bt base rp S w0 w' a ps := h.step ⟨grown_blk (grown_kp hk none) h.rd (by simp), grown_kp hk _⟩
def pieceB (S : ByteArray) (b c : Nat) : Bs := (restOf S b).take (c - b)
theorem piece_extract {S : ByteArray} {b c : Nat} : S.extract b c = bsB (pieceB S b c) := by
  unfold bsB pieceB restOf
  apply ByteArray.ext
  rw [ByteArray.data_extract]
  apply Array.toList_inj.1
  rw [Array.toList_extract, List.extract_eq_take_drop]
set_option maxRecDepth 20000 in
set_option maxHeartbeats 1000000 in
theorem each_any (w w0 : World) (B Bl Bt base rp : Nat) (S : ByteArray) (a b c : Nat) (ps : List Bs) (h : EachSt B Bl Bt base rp S w0 w a ps) (hbc : b ≤ c) (hc : c ≤ S.size) (hS : S.size ≤ 140737488351232) (hp : ps.length ≤ 10) :
    Calls Try.prog 54 #[.int .i64 (b : Int), .int .i64 (c : Int), .pointer (some ⟨Bl, 0, none⟩), .pointer (some ⟨Bt, 0, none⟩)] w fun e w' => e = .returned (.tuple #[]) ∧ EachSt B Bl Bt base rp S w0 w' a (ps ++ [pieceB S b c]) := by
  obtain ⟨h1, h2, ⟨v, h3, h4⟩, h5, h6, h7⟩ := h
  have hlt := h5
  obtain ⟨l1, l2, l3, l4, l5, l6, l7, l8, l9⟩ := hlt
  have cL := blk_cell (o := 0) (v := v) h3 rfl
  have cT := blk_cell (o := 0) (v := .string S) h2 rfl
  have i1 : (0 : Int) ≤ (b : Int) := by omega
  have i2 : (b : Int) ≤ (c : Int) := by omega
  have i3 : (c : Int) ≤ (S.size : Int) := by omega
  obtain ⟨xs, hx⟩ : ∃ xs, S.extract b c = xs := ⟨_, rfl⟩
  have HX := hid hx
  have H1 := hid h1; have H2 := hid h2; have H3 := hid h3; have H4 := hid h4; have H5 := hid h5; have H7 := hid h7
  have hb3 := blk_lt h3
  clear h1 h2 h3 h4 h5 h7
  go_enter Try.func54, Try.ntmps54
  go_wp2
  refine wp_region_row 6 [[], [], [], [], [1, 2, 3], [4], [0, 5], [6]] (fun u => Kp w u)
    [fun (y : Value) (u : World) => y = (v : Value),
     fun (y : Value) (u : World) => y = (.string S : Value),
     fun (y : Value) (u : World) => y = (.int .i64 (b : Int) : Value),
     fun (y : Value) (u : World) => y = (.int .i64 (c : Int) : Value),
     fun (y : Value) (u : World) => y = (.string xs : Value),
     fun (y : Value) (u : World) => ∃ g, y = .slice (some ⟨g, 0, none⟩) 1 1 ∧ g < u.heap.size ∧ u.cell? ⟨g, 0, none⟩ = some (.string xs)]
    (by kernel_rfl) (by kernel_rfl) (by kernel_rfl) (by kernel_rfl) (by kernel_rfl) ((Kp.refl _).drew) (fun _ _ hk h => h.trans hk) ⟨fun _ _ _ _ h => h, fun _ _ _ _ h => h, fun _ _ _ _ h => h, fun _ _ _ _ h => h, fun _ _ _ _ h => h, fun _ _ _ hk ⟨g, h1, h2, h3⟩ => ⟨g, h1, Nat.lt_of_lt_of_le h2 hk.le, cell_kp hk h2 h3⟩, trivial⟩ ⟨?sb0, ?sb1, ?sb2, ?sb3, ?sb4, ?sb5, trivial⟩ ?hEb
  case sb0 =>
    intro x u hg hd K hK
    clear hd
    have cL' := cell_kp hg hb3 cL
    refine ⟨?_⟩
    simp only [List.take_succ_cons, List.take_zero, putsFrom, Act.put, List.setIfInBounds_toArray, List.set_cons_zero, List.set_cons_succ, Nat.reduceAdd] at hK ⊢
    go_simp
    exact hK.out _ _ (Kp.refl _) rfl
  case sb1 =>
    intro x u hg hd K hK
    clear hd
    have cT' := cell_kp hg (blk_lt H2.out) cT
    refine ⟨?_⟩
    simp only [List.take_succ_cons, List.take_zero, putsFrom, Act.put, List.setIfInBounds_toArray, List.set_cons_zero, List.set_cons_succ, Nat.reduceAdd] at hK ⊢
    go_simp
    exact hK.out _ _ (Kp.refl _) rfl
  case sb2 =>
    intro x u hg hd K hK
    clear hd
    refine ⟨?_⟩
    simp only [List.take_succ_cons, List.take_zero, putsFrom, Act.put, List.setIfInBounds_toArray, List.set_cons_zero, List.set_cons_succ, Nat.reduceAdd] at hK ⊢
    go_simp
    exact hK.out _ _ (Kp.refl _) rfl
  case sb3 =>
    intro x u hg hd K hK
    clear hd
    refine ⟨?_⟩
    simp only [List.take_succ_cons, List.take_zero, putsFrom, Act.put, List.setIfInBounds_toArray, List.set_cons_zero, List.set_cons_succ, Nat.reduceAdd] at hK ⊢
    go_simp
    exact hK.out _ _ (Kp.refl _) rfl
  case sb4 =>
    intro x u hg hd K hK
    have d1 : (x 1) = .string S := And.left hd
    have d2 : (x 2) = .int .i64 (b : Int) := And.left (And.right hd)
    have d3 : (x 3) = .int .i64 (c : Int) := And.left (And.right (And.right hd))
    clear hd
    refine ⟨?_⟩
    simp only [List.take_succ_cons, List.take_zero, putsFrom, Act.put, List.setIfInBounds_toArray, List.set_cons_zero, List.set_cons_succ, Nat.reduceAdd, d1, d2, d3] at hK ⊢
    go_simp
    exact hK.out _ _ (Kp.refl _) rfl
  case sb5 =>
    intro x u hg hd K hK
    have d4 : (x 4) = .string xs := And.left hd
    clear hd
    refine ⟨?_⟩
    simp only [List.take_succ_cons, List.take_zero, putsFrom, Act.put, List.setIfInBounds_toArray, List.set_cons_zero, List.set_cons_succ, Nat.reduceAdd, d4] at hK ⊢
    go_simp
    exact hK.out _ _ ((Kp.refl u).alloc _) ⟨u.heap.size, rfl, by simp, by simp⟩
  intro x u hg he
  have d0 : (x 0) = v := And.left he
  have d1 : (x 1) = .string S := And.left (And.right he)
  have d2 : (x 2) = .int .i64 (b : Int) := And.left (And.right (And.right he))
  have d3 : (x 3) = .int .i64 (c : Int) := And.left (And.right (And.right (And.right he)))
  have d4 : (x 4) = .string xs := And.left (And.right (And.right (And.right (And.right he))))
  have d5 : ∃ g, (x 5) = .slice (some ⟨g, 0, none⟩) 1 1 ∧ g < u.heap.size ∧ u.cell? ⟨g, 0, none⟩ = some (.string xs) := And.left (And.right (And.right (And.right (And.right (And.right he)))))
  clear he
  refine ⟨?_⟩
  simp only [List.take_succ_cons, List.take_zero, List.drop_succ_cons, List.drop_zero, putsFrom, Act.put, List.setIfInBounds_toArray, List.set_cons_zero, List.set_cons_succ, Nat.reduceAdd, d0, d1, d2, d3, d4]
  clear d0 d1 d2 d3 d4
  obtain ⟨g, hx5, hg5, hc5⟩ := d5
  rw [hx5]
  have hown : OwnS u base v (ps.map bsB) := H4.out.kp hg
  have hsz : base ≤ u.heap.size := Nat.le_trans h6 hg.le
  have hcB : u.cell? ⟨Bl, 0, none⟩ = some v := cell_kp hg hb3 cL
  have hlen : (ps.map bsB).length = ps.length := by rw [List.length_map]
  have hnew : ∀ (j : Nat) (y : Value), ([.string xs] : List Value)[j]? = some y → u.cell? ((⟨g, 0, none⟩ : Addr).add j) = some y := by
    intro j y hj
    cases j with
    | zero => simp at hj; subst hj; exact hc5
    | succ j => simp at hj
  have HN := hid hnew
  have hfin : ∀ (v2 : Value) (w2 : World), w2.ownsRow base 9 1 v2 ((ps.map bsB).length + 1) ((ps.map bsB).map Value.string ++ [.string xs]) → u.grownBy w2 v.ownBlock → Below base u w2 →
      w2.cell? ⟨Bl, 0, none⟩ = some v ∧ w2.frozen? ⟨Bl, 0, none⟩ = false ∧ EachSt B Bl Bt base rp S w0 (w2.setCell ⟨Bl, 0, none⟩ v2) a (ps ++ [pieceB S b c]) := by
    intro v2 w2 ho hgr hbl
    have b1 : w2.heap[rp]? = w.heap[rp]? := by rw [hbl.block rp l4, hg.block rp (by omega)]
    have b2 : w2.heap[Bt]? = w.heap[Bt]? := by rw [hbl.block Bt l6, hg.block Bt (by omega)]
    have b3 : w2.heap[Bl]? = w.heap[Bl]? := by rw [hbl.block Bl l5, hg.block Bl (by omega)]
    have h3 := H3.out
    rw [← b3] at h3
    refine ⟨blk_cell (o := 0) h3 rfl, blk_free h3, ?_⟩
    refine ⟨?_, ?_, ⟨v2, blk_set h3 v2, ?_⟩, H5.out, ?_, ?_⟩
    · unfold RdrAt; rw [blk_far (p := ⟨Bl, 0, none⟩) l7, b1]; exact H1.out
    · rw [blk_far (p := ⟨Bl, 0, none⟩) (Ne.symm l9), b2]; exact H2.out
    · have : OwnS w2 base v2 (ps.map bsB ++ [xs]) := OwnS.snoc (cs := #[.string xs]) rfl ho
      rw [List.map_append, List.map_singleton, ← piece_extract, HX.out]
      exact this.grown (grown_setCell _) l5
    · have := hbl.size; simp [World.setCell]; omega
    · exact Below.one ((Below.trans H7.out (hg.mono (by omega))).trans (hbl.mono (by omega))) (grown_setCell _) l2 (by have := hbl.size; omega)
  have HF := hid hfin
  clear hnew hfin
  have one_ : ∀ y ∈ ([.string xs] : List Value), y.oneCell' = true := by intro y hy; simp at hy; subst hy; rfl
  have HO := hid one_
  clear one_
  go_wp2_with (at_builtin; go_must (refine app_src elStr rfl (.tmp 6) (.tmp 11) rfl hown rfl [.string xs] (some ⟨g, 0, none⟩) 1 1 rfl rfl (fun _ => ⟨_, rfl, HN.out⟩) HO.out (by unfold maxLen; omega) (by omega) hsz ?_); intro v2 w2 ho hgr hmv hbl; obtain ⟨A2, c2, rfl⟩ := own_form ho; obtain ⟨f1, f2, f3⟩ := HF.out _ w2 ho hgr hbl; have F3 := hid f3; clear f3)

  go_end0
  exact ⟨rfl, by have := F3.out; rw [List.length_map] at this; exact this⟩
def EachP (B Bl Bt base rp : Nat) (S : ByteArray) (w0 : World) (o : Option (List Bs × Bs)) (e : Ending) (w' : World) : Prop :=
  (∃ ps r, o = some (ps, r) ∧ e = .returned (.bool true) ∧ EachSt B Bl Bt base rp S w0 w' (S.size - r.length) ps) ∨ (o = none ∧ e = .returned (.bool false) ∧ Below B w0 w')
theorem piece_nil {S : ByteArray} {c : Nat} : pieceB S c c = [] := by unfold pieceB; rw [Nat.sub_self]; rfl
theorem piece_of {f : Nat} {S : ByteArray} {c : Nat} {r : Bs} (hc : c ≤ S.size) (h : oneM f (restOf S c) = some r) : pieceB S c (S.size - r.length) = (restOf S c).take ((restOf S c).length - r.length) := by
  unfold pieceB; rw [rest_len hc]; congr 1; omega
set_option maxRecDepth 20000 in
set_option maxHeartbeats 4000000 in
theorem fun_each (f : Nat) (hf : OneC f) (w w0 : World) (B Bl Bt base rp : Nat) (S : ByteArray) (a : Nat) (h : EachSt B Bl Bt base rp S w0 w a []) (ha : a ≤ S.size) (hS : S.size ≤ 140737488351232) (hfu : S.size - a ≤ f) :
    Calls Try.prog 55 #[.pointer (some ⟨rp, 0, none⟩), .func (.func 54) #[] #[.pointer (some ⟨Bl, 0, none⟩), .pointer (some ⟨Bt, 0, none⟩)]] w (EachP B Bl Bt base rp S w0 (funM (oneM f) (restOf S a))) := by
  have NN := fun_nil
  have HF := hid hf
  obtain ⟨o, ho⟩ : ∃ o, funM (oneM f) (restOf S a) = o := ⟨_, rfl⟩
  have HO := hid ho
  have H := hid h
  rw [ho]
  clear hf ho h
  cases hp : pre bFunc (restOf S a) with
  | none =>
    have HP : Hid (pre funcB.data.toList (restOf S a) = none) := hid hp
    have HV : Hid (o = none) := hid (by rw [← HO.out, funM_no hp])
    clear hp
    go_enter Try.func55, Try.ntmps55
    go_wp2_with (go_at_call 56; go_must (refine (has_no _ rp S funcB a H.out.rd ha hS (by decide) HP.out).mono ?_); rintro e w1 ⟨rfl, hr1, hg1⟩)
    go_ret
    exact .inr ⟨HV.out, rfl, H.out.low hg1⟩
  | some l1 =>
    have HP : Hid (pre funcB.data.toList (restOf S a) = some l1) := hid hp
    obtain ⟨_, hl1, hle1⟩ := rest_pre (K := funcB) ha hp
    have HG0 : Hid (o = (goOn f 0 (restOf S (a + funcB.size))).map (fun q => ([] ++ q.1, q.2))) := hid (by rw [← HO.out, funM_goOn hp, hl1]; simp)
    have HLE : Hid (a + funcB.size ≤ S.size ∧ S.size - (a + funcB.size) < f) := hid ⟨hle1, by have : funcB.size = 5 := rfl; omega⟩
    clear hp hl1 hle1
    go_enter Try.func55, Try.ntmps55
    go_wp2_with (go_at_call 56; go_must (refine (has_yes _ rp S funcB a l1 H.out.rd ha hS (by decide) HP.out).mono ?_); rintro e w1 ⟨rfl, hr1, hg1⟩)
    go_loopw [5] (fun i wr => ∃ (n b : Nat) (ps : List Bs), n ≤ 4 ∧ i = .int .i64 n ∧ EachSt B Bl Bt base rp S w0 wr b ps ∧ (b ≤ S.size ∧ S.size - b < f) ∧ o = (goOn f n (restOf S b)).map (fun q => (ps ++ q.1, q.2)) ∧ ps.length = n) (fun i _ => 5 - (intOf i).toNat)
    case atStart => exact ⟨0, _, [], by omega, rfl, H.out.step ⟨hr1, hg1⟩, HLE.out, HG0.out, rfl⟩
    case round =>
      obtain ⟨n, b, ps, hn, rfl, hr, ⟨hb, hbf⟩, hm, hpl⟩ := hrel
      have HE := hid hr; have HM := hid hm; have HPL := hid hpl
      clear hr hm hpl
      cases hs : pre [41] (restOf S b) with
      | some l2 =>
        have HS : Hid (pre shutB.data.toList (restOf S b) = some l2) := hid hs
        obtain ⟨_, hl2, hle2⟩ := rest_pre (K := shutB) hb hs
        have hO := HM.out
        rw [goOn_shut hs, hl2] at hO
        obtain ⟨c, hc⟩ : ∃ c, b + shutB.size = c := ⟨_, rfl⟩
        have HC := hid hc
        rw [hc] at hO hle2
        have hcb : b < c := by have : shutB.size = 1 := rfl; omega
        have hrl := rest_len hle2
        clear hs hl2 hc
        rcases res_cases S c with ⟨hge, hres⟩ | ⟨hlt, hx, hres⟩ | ⟨hlt, hx1, hx2, hres⟩
        · have HV : Hid (o = some (ps ++ [[]], restOf S c)) := hid (by rw [hO, resM_no hres]; rfl)
          have HP10 : Hid (ps.length ≤ 10) := hid (by have := HPL.out; omega)
          have HL : Hid (S.size - (restOf S c).length = c) := hid (by omega)
          have i2 : decide (c < S.size) = false := decide_eq_false (by omega)
          clear hO hres hrl
          go_wp2_with fail
          refine (has_to _ rp S shutB b c l2 HE.out.rd hb hS (by decide) HS.out HC.out).mono ?_
          rintro e w2 ⟨rfl, hr2, hg2⟩
          have HE2 := hid (HE.out.step ⟨hr2, hg2⟩)
          have c0 := hr2.c0; have c1 := hr2.c1
          clear hr2
          go_wp2_with fail
          go_quiet (fail)
          have HE3 := hid (HE2.out.drewN nq)
          have c2 := HE3.out.rd.c1
          go_wp2_with (go_at_call 54; go_must (refine (each_any _ w0 B Bl Bt base rp S c c c ps HE3.out (Nat.le_refl _) hle2 hS HP10.out).mono ?_); rintro e w3 ⟨rfl, hE4⟩)
          go_ret
          exact .inl ⟨_, _, HV.out, rfl, by rw [HL.out]; rw [piece_nil] at hE4; exact hE4⟩
        · have HV : Hid (o = some (ps ++ [[]], restOf S c)) := hid (by rw [hO, resM_no hres]; rfl)
          have HP10 : Hid (ps.length ≤ 10) := hid (by have := HPL.out; omega)
          have HL : Hid (S.size - (restOf S c).length = c) := hid (by omega)
          have i2 : decide (c < S.size) = true := decide_eq_true (by omega)
          have i3 : (c : Int) < (S.size : Int) := by omega
          have i4 : (0 : Int) ≤ (c : Int) := by omega
          obtain ⟨x, hX⟩ : ∃ x, S[c] = x := ⟨_, rfl⟩
          rw [hX] at hx
          have b1 := byte_beq x 44 (by decide)
          have b2 := byte_beq x 41 (by decide)
          clear hO hres hrl
          rcases hx with rfl | rfl
          all_goals
            go_wp2_with fail
            refine (has_to _ rp S shutB b c l2 HE.out.rd hb hS (by decide) HS.out HC.out).mono ?_
            rintro e w2 ⟨rfl, hr2, hg2⟩
            have HE2 := hid (HE.out.step ⟨hr2, hg2⟩)
            have c0 := hr2.c0; have c1 := hr2.c1
            clear hr2
            go_wp2_with fail
            go_quiet (fail)
            have HE3 := hid (HE2.out.drewN nq)
            have c2 := HE3.out.rd.c1
            go_wp2_with (go_at_call 54; go_must (refine (each_any _ w0 B Bl Bt base rp S c c c ps HE3.out (Nat.le_refl _) hle2 hS HP10.out).mono ?_); rintro e w3 ⟨rfl, hE4⟩)
            go_ret
            exact .inl ⟨_, _, HV.out, rfl, by rw [HL.out]; rw [piece_nil] at hE4; exact hE4⟩
        · have i2 : decide (c < S.size) = true := decide_eq_true (by omega)
          have i3 : (c : Int) < (S.size : Int) := by omega
          have i4 : (0 : Int) ≤ (c : Int) := by omega
          obtain ⟨x, hX⟩ : ∃ x, S[c] = x := ⟨_, rfl⟩
          rw [hX] at hx1 hx2
          have b1 : ((x.toNat : Int) == 44) = false := (byte_beq x 44 (by decide)).trans (beq_eq_false_iff_ne.2 hx1)
          have b2 : ((x.toNat : Int) == 41) = false := (byte_beq x 41 (by decide)).trans (beq_eq_false_iff_ne.2 hx2)
          have b3 : ((x.toNat : Int) != 44) = true := by rw [bne, b1]; rfl
          have b4 : ((x.toNat : Int) != 41) = true := by rw [bne, b2]; rfl
          rw [resM_yes hres, Option.map_map, Option.map_map] at hO
          have HP10 : Hid (ps.length ≤ 10) := hid (by have := HPL.out; omega)
          clear hres hx1 hx2 hrl
          cases hz : oneM f (restOf S c) with
          | none =>
            have HZ := hid hz
            have HV : Hid (o = none) := hid (by rw [hO, hz]; rfl)
            clear hz hO
            go_wp2_with fail
            refine (has_to _ rp S shutB b c l2 HE.out.rd hb hS (by decide) HS.out HC.out).mono ?_
            rintro e w2 ⟨rfl, hr2, hg2⟩
            have HR2 := hid (HE.out.step ⟨hr2, hg2⟩)
            have c0 := hr2.c0; have c1 := hr2.c1
            clear hr2
            go_wp2_with fail
            go_still_tail 36, (by kernel_rfl)
            change wpList _ _ _ _ _ w2.drew
            have HR3 : Hid (EachSt B Bl Bt base rp S w0 w2.drew c ps) := hid HR2.out.drew
            generalize w2.drew = w3 at *
            go_wp2_with (go_at_call 48; go_must (refine ((HF.out _ rp S c HR3.out.rd hle2 hS (by omega)).mono fun _ _ h => h.no HZ.out).mono ?_); rintro e w4 ⟨rfl, hg4⟩)
            go_ret
            exact .inr ⟨HV.out, rfl, HR3.out.low hg4⟩
          | some r =>
            have HZ := hid hz
            have HV : Hid (o = some (ps ++ [pieceB S c (S.size - r.length)], r)) := hid (by rw [hO, hz, piece_of hle2 hz]; rfl)
            have HQ : Hid (c ≤ S.size - r.length ∧ S.size - r.length ≤ S.size) := hid (by have := rest_one hle2 hz; omega)
            clear hz hO
            go_wp2_with fail
            refine (has_to _ rp S shutB b c l2 HE.out.rd hb hS (by decide) HS.out HC.out).mono ?_
            rintro e w2 ⟨rfl, hr2, hg2⟩
            have HR2 := hid (HE.out.step ⟨hr2, hg2⟩)
            have c0 := hr2.c0; have c1 := hr2.c1
            clear hr2
            go_wp2_with fail
            go_still_tail 36, (by kernel_rfl)
            change wpList _ _ _ _ _ w2.drew
            have HR3 : Hid (EachSt B Bl Bt base rp S w0 w2.drew c ps) := hid HR2.out.drew
            generalize w2.drew = w3 at *
            go_wp2_with (go_at_call 48; go_must (refine ((HF.out _ rp S c HR3.out.rd hle2 hS (by omega)).mono fun _ _ h => h.yes HZ.out).mono ?_); rintro e w4 ⟨rfl, hr4, hg4⟩; have HE4 := hid (HR3.out.step ⟨hr4, hg4⟩); have c4 := hr4.c1; clear hr4)
            refine (each_any _ w0 B Bl Bt base rp S _ c (S.size - r.length) ps HE4.out HQ.out.1 HQ.out.2 hS HP10.out).mono ?_
            rintro e w5 ⟨rfl, hE5⟩
            go_wp2
            go_ret
            exact .inl ⟨_, _, HV.out, rfl, hE5⟩
      | none =>
        have HS : Hid (pre shutB.data.toList (restOf S b) = none) := hid hs
        by_cases h4 : n = 4
        · have HV : Hid (o = none) := hid (by rw [HM.out, h4, goOn_full hs]; rfl)
          subst h4
          clear hs
          go_wp2_with (go_at_call 56; go_must (refine (has_no _ rp S shutB b HE.out.rd hb hS (by decide) HS.out).mono ?_); rintro e w2 ⟨rfl, hr2, hg2⟩)
          go_ret
          exact .inr ⟨HV.out, rfl, HE.out.low hg2⟩
        · have key : (0 < n ∧ pre [44] (restOf S b) = none) ∨ ∃ c, c ≤ S.size ∧ b ≤ c ∧ ((n = 0 ∧ c = b) ∨ (0 < n ∧ pre [44] (restOf S b) = some (restOf S c))) := by
            by_cases h0 : n = 0
            · exact .inr ⟨b, hb, Nat.le_refl _, .inl ⟨h0, rfl⟩⟩
            · cases hc : pre [44] (restOf S b) with
              | none => exact .inl ⟨by omega, rfl⟩
              | some l3 =>
                obtain ⟨_, h1, h2⟩ := rest_pre (K := comB) hb hc
                exact .inr ⟨b + 1, h2, by omega, .inr ⟨by omega, by rw [h1]; rfl⟩⟩
          rcases key with ⟨h0, hc⟩ | ⟨c, hcS, hbc, hcc⟩
          · have HV : Hid (o = none) := hid (by rw [HM.out, goOn_com hs h0 (by omega) hc]; rfl)
            have HC : Hid (pre comB.data.toList (restOf S b) = none) := hid hc
            have e4 : ((n : Int) == 4) = false := by simp; omega
            have e0 : decide ((0 : Int) < (n : Int)) = true := by rw [decide_eq_true_eq]; omega
            clear hs hc
            go_wp2_with fail
            refine (has_no _ rp S shutB b HE.out.rd hb hS (by decide) HS.out).mono ?_
            rintro e w2 ⟨rfl, hr2, hg2⟩
            have HR2 := hid (HE.out.step ⟨hr2, hg2⟩)
            go_wp2_with fail
            refine (has_no _ rp S comB b HR2.out.rd hb hS (by decide) HC.out).mono ?_
            rintro e w3 ⟨rfl, hr3, hg3⟩
            go_wp2_with fail
            go_ret
            exact .inr ⟨HV.out, rfl, HR2.out.low hg3⟩
          · have hO := HM.out
            rw [goOn_one (l1 := restOf S c) hs (by omega) (hcc.imp (fun h => ⟨h.1, by rw [h.2]⟩) id)] at hO
            have hcf : S.size - c < f := by omega
            have e4 : ((n : Int) == 4) = false := by simp; omega
            cases hz : oneM f (restOf S c) with
            | none =>
              have HZ := hid hz
              have HV : Hid (o = none) := hid (by rw [hO, hz]; rfl)
              clear hz hO hs
              rcases hcc with ⟨rfl, rfl⟩ | ⟨h0, hc⟩
              · go_wp2_with fail
                refine (has_no _ rp S shutB c HE.out.rd hb hS (by decide) HS.out).mono ?_
                rintro e w2 ⟨rfl, hr2, hg2⟩
                have c0 := hr2.c0; have c1 := hr2.c1
                have HR2 := hid (HE.out.step ⟨hr2, hg2⟩)
                clear hr2
                go_wp2_with (go_at_call 48; go_must (refine ((HF.out _ rp S c HR2.out.rd hcS hS hcf).mono fun _ _ h => h.no HZ.out).mono ?_); rintro e w4 ⟨rfl, hg4⟩)
                go_ret
                exact .inr ⟨HV.out, rfl, HR2.out.low hg4⟩
              · have e0 : decide ((0 : Int) < (n : Int)) = true := by rw [decide_eq_true_eq]; omega
                have HC : Hid (pre comB.data.toList (restOf S b) = some (restOf S c)) := hid hc
                obtain ⟨g1, g2, _⟩ := rest_pre (K := comB) hb hc
                have HCC : Hid (b + comB.size = c) := hid (by have := rest_len hcS; omega)
                clear hc g1 g2
                go_wp2_with fail
                refine (has_no _ rp S shutB b HE.out.rd hb hS (by decide) HS.out).mono ?_
                rintro e w2 ⟨rfl, hr2, hg2⟩
                have HR2 := hid (HE.out.step ⟨hr2, hg2⟩)
                clear hr2
                go_wp2_with fail
                refine (has_to _ rp S comB b c _ HR2.out.rd hb hS (by decide) HC.out HCC.out).mono ?_
                rintro e w3 ⟨rfl, hr3, hg3⟩
                have c0 := hr3.c0; have c1 := hr3.c1
                have HR3 := hid (HR2.out.step ⟨hr3, hg3⟩)
                clear hr3
                go_wp2_with (go_at_call 48; go_must (refine ((HF.out _ rp S c HR3.out.rd hcS hS hcf).mono fun _ _ h => h.no HZ.out).mono ?_); rintro e w4 ⟨rfl, hg4⟩)
                go_ret
                exact .inr ⟨HV.out, rfl, HR3.out.low hg4⟩
            | some r =>
              have HZ := hid hz
              obtain ⟨g1, g2, g3⟩ := rest_one hcS hz
              have HD : Hid (S.size - r.length ≤ S.size ∧ S.size - (S.size - r.length) < f) := hid ⟨g2, by omega⟩
              have HV : Hid (o = (goOn f (n + 1) (restOf S (S.size - r.length))).map (fun q => ((ps ++ [pieceB S c (S.size - r.length)]) ++ q.1, q.2))) := hid (by
                rw [hO, hz, g3]; dsimp only; rw [Option.map_map, piece_of hcS hz]; congr 1; funext q; simp)
              have HQ : Hid (c ≤ S.size - r.length ∧ S.size - r.length ≤ S.size ∧ ps.length ≤ 10 ∧ (ps ++ [pieceB S c (S.size - r.length)]).length = n + 1) := hid ⟨by omega, g2, by have := HPL.out; omega, by rw [List.length_append, HPL.out]; rfl⟩
              clear hz hO hs g1 g2 g3
              rcases hcc with ⟨rfl, rfl⟩ | ⟨h0, hc⟩
              · go_wp2_with fail
                refine (has_no _ rp S shutB c HE.out.rd hb hS (by decide) HS.out).mono ?_
                rintro e w2 ⟨rfl, hr2, hg2⟩
                have c0 := hr2.c0; have c1 := hr2.c1
                have HR2 := hid (HE.out.step ⟨hr2, hg2⟩)
                clear hr2
                go_wp2_with (go_at_call 48; go_must (refine ((HF.out _ rp S c HR2.out.rd hcS hS hcf).mono fun _ _ h => h.yes HZ.out).mono ?_); rintro e w4 ⟨rfl, hr4, hg4⟩; have HE4 := hid (HR2.out.step ⟨hr4, hg4⟩); have c4 := hr4.c1; clear hr4)
                refine (each_any _ w0 B Bl Bt base rp S _ c (S.size - r.length) ps HE4.out HQ.out.1 HQ.out.2.1 hS HQ.out.2.2.1).mono ?_
                rintro e w5 ⟨rfl, hE5⟩
                go_wp2
                go_roundw
                case rel => exact ⟨1, S.size - r.length, _, by omega, by go_num, hE5, HD.out, HV.out, HQ.out.2.2.2⟩
                case measure => simp [intOf]
              · have e0 : decide ((0 : Int) < (n : Int)) = true := by rw [decide_eq_true_eq]; omega
                have HC : Hid (pre comB.data.toList (restOf S b) = some (restOf S c)) := hid hc
                obtain ⟨g1, g2, _⟩ := rest_pre (K := comB) hb hc
                have HCC : Hid (b + comB.size = c) := hid (by have := rest_len hcS; omega)
                clear hc g1 g2
                go_wp2_with fail
                refine (has_no _ rp S shutB b HE.out.rd hb hS (by decide) HS.out).mono ?_
                rintro e w2 ⟨rfl, hr2, hg2⟩
                have HR2 := hid (HE.out.step ⟨hr2, hg2⟩)
                clear hr2
                go_wp2_with fail
                refine (has_to _ rp S comB b c _ HR2.out.rd hb hS (by decide) HC.out HCC.out).mono ?_
                rintro e w3 ⟨rfl, hr3, hg3⟩
                have c0 := hr3.c0; have c1 := hr3.c1
                have HR3 := hid (HR2.out.step ⟨hr3, hg3⟩)
                clear hr3
                go_wp2_with (go_at_call 48; go_must (refine ((HF.out _ rp S c HR3.out.rd hcS hS hcf).mono fun _ _ h => h.yes HZ.out).mono ?_); rintro e w4 ⟨rfl, hr4, hg4⟩; have HE4 := hid (HR3.out.step ⟨hr4, hg4⟩); have c4 := hr4.c1; clear hr4)
                refine (each_any _ w0 B Bl Bt base rp S _ c (S.size - r.length) ps HE4.out HQ.out.1 HQ.out.2.1 hS HQ.out.2.2.1).mono ?_
                rintro e w5 ⟨rfl, hE5⟩
                go_wp2
                go_roundw
                case rel => exact ⟨n + 1, S.size - r.length, _, by omega, by go_num, hE5, HD.out, HV.out, HQ.out.2.2.2⟩
                case measure => simp [intOf]; omega
theorem EachP.no {B Bl Bt base rp : Nat} {S : ByteArray} {w0 : World} {o : Option (List Bs × Bs)} {e : Ending} {w' : World} (h : EachP B Bl Bt base rp S w0 o e w') (ho : o = none) : e = .returned (.bool false) ∧ Below B w0 w' := by
  rcases h with ⟨_, _, h1, _⟩ | ⟨_, h⟩
  · rw [ho] at h1; cases h1
  · exact h
theorem EachP.yes {B Bl Bt base rp : Nat} {S : ByteArray} {w0 : World} {o : Option (List Bs × Bs)} {ps : List Bs} {r : Bs} {e : Ending} {w' : World} (h : EachP B Bl Bt base rp S w0 o e w') (ho : o = some (ps, r)) : e = .returned (.bool true) ∧ EachSt B Bl Bt base rp S w0 w' (S.size - r.length) ps := by
  rcases h with ⟨_, _, h1, h2⟩ | ⟨h1, _⟩
  · rw [ho] at h1; cases h1; exact h2
  · rw [ho] at h1; cases h1
end Go.Proofs.Ytmcidhjcimjeiaa
