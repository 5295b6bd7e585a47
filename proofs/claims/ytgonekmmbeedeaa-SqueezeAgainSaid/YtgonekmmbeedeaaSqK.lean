/-
  Package squeeze: keep, once. Condition: the rows lie within the reach.
-/
import Derived.Test.YtgonekmmbeedeaaSqA
namespace Go.Proofs.Ytgonekmmbeedeaa.Sq
open Go.RowKit
set_option linter.unusedVariables false
set_option linter.unusedSimpArgs false

/-- The closures: which places stay. -/
theorem once1_any (w : World) (b base g c : Nat) (S : List Bool) (hb : w.cell? ⟨b, 0, none⟩ = some (.slice (some ⟨g, 0, none⟩) S.length c)) (hl : b < w.heap.size) (hr : OBl w base (.slice (some ⟨g, 0, none⟩) S.length c) S) (p : Nat) (s : Bool) (hp : S[p]? = some s) :
    Calls Try.prog 50 #[.int .i64 (p : Int), .pointer (some ⟨b, 0, none⟩)] w fun e w' => e = .returned (.bool s) ∧ Kp w w' := by
  have hlt : p < S.length := (List.getElem?_eq_some_iff.1 hp).1
  obtain ⟨z, f⟩ := hr.at_ hp
  have i1 : (0 : Int) ≤ (p : Int) := by omega
  have i2 : (p : Int) < (S.length : Int) := by omega
  clear hr hp
  go_enter Try.func50, Try.ntmps50
  go_wp2
  go_ret
  exact ⟨rfl, Kp.refl _⟩
set_option maxRecDepth 20000 in
set_option maxHeartbeats 4000000 in
theorem once2_any (w : World) (b : Nat) (v : Value) (l : List InsM) (hb : w.cell? ⟨b, 0, none⟩ = some v) (hlb : b < w.heap.size) (hr : RdL CeIns 6 w v l) (hl : l.length ≤ 2000000) (p : Nat) (s : Bool) (hp : (stayM l)[p]? = some s) :
    Calls Try.prog 51 #[.int .i64 (p : Int), .pointer (some ⟨b, 0, none⟩)] w fun e w' => e = .returned (.bool s) ∧ Kp w w' := by
  have hlt : p < l.length := by have := (List.getElem?_eq_some_iff.1 hp).1; rwa [stay_len] at this
  obtain ⟨A, c, rfl, _⟩ := hr.form
  obtain ⟨i, hi⟩ : ∃ i, l[p]? = some i := ⟨_, List.getElem?_eq_getElem hlt⟩
  rw [stay_at hi] at hp
  injection hp with hp
  obtain ⟨b2, off, rfl, hb2, g0, g1, g2, g3, g4, g5, _⟩ := at_ins hr hi
  have i1 : (0 : Int) ≤ (p : Int) := by omega
  have i2 : (p : Int) < (l.length : Int) := by omega
  have w1 : IntKind.i64.wrap ((l.length : Int) - 1) = (l.length : Int) - 1 := IntWalk.i64_in _ (by omega)
  have hid_ := fun w' => idle_any w' i p (by omega)
  cases hx : idleM i p with
  | false =>
    rw [hx] at hid_
    have HP := hid (show true = s by rw [← hp, hx]; rfl)
    clear hr hi hp hx
    unfold insV at hid_
    go_enter Try.func51, Try.ntmps51
    go_wp2_with (go_at_call 52; refine (hid_ _).mono ?_; rintro e w2 ⟨rfl, hk2⟩; have HK2 := hid hk2; clear hk2)
    go_ret
    exact ⟨ret_bool HP.out, HK2.out⟩
  | true =>
    rw [hx] at hid_
    have hs : ((p : Int) == (l.length : Int) - 1) = s := by
      rw [← hp, hx]
      by_cases hz : p + 1 = l.length
      · have : (p : Int) = (l.length : Int) - 1 := by omega
        simp [hz, this]
      · have : ¬ (p : Int) = (l.length : Int) - 1 := by omega
        simp [hz, this]
    have HP := hid hs
    clear hr hi hp hx hs
    unfold insV at hid_
    go_enter Try.func51, Try.ntmps51
    go_wp2_with (go_at_call 52; refine (hid_ _).mono ?_; rintro e w2 ⟨rfl, hk2⟩; have HK2 := hid hk2; have zz := cell_kp hk2 hlb hb; clear hk2)
    go_ret
    exact ⟨ret_bool HP.out, HK2.out⟩
/-! ### keep -/
def placeL (S : List Bool) (n k : Nat) : List Nat := (List.range (n + 1)).map fun j => if j < k then cnt S j else 0
theorem place_len (S : List Bool) (n k : Nat) : (placeL S n k).length = n + 1 := by simp [placeL]
theorem place_zero (S : List Bool) (n : Nat) : placeL S n 0 = List.replicate (n + 1) 0 := by
  apply List.ext_getElem?
  intro j
  unfold placeL
  rw [List.getElem?_map, List.getElem?_replicate]
  rcases Nat.lt_or_ge j (n + 1) with hj | hj
  · rw [List.getElem?_range hj, if_pos hj]; simp
  · rw [List.getElem?_eq_none (by simpa using hj), if_neg (by omega)]; rfl
theorem place_set (S : List Bool) {n k : Nat} (hk : k < n) : (placeL S n k).set k (cnt S k) = placeL S n (k + 1) := by
  apply List.ext_getElem?
  intro j
  rw [List.getElem?_set]
  unfold placeL
  rw [List.getElem?_map, List.getElem?_map, List.length_map, List.length_range]
  rcases Nat.lt_or_ge j (n + 1) with hj | hj
  · rw [List.getElem?_range hj]
    simp only [Option.map_some]
    split
    · rename_i e; subst e; rw [if_pos (by omega), if_pos (by omega)]
    · rename_i e
      congr 1
      by_cases h : j < k
      · rw [if_pos h, if_pos (by omega)]
      · rw [if_neg h, if_neg (by omega)]
  · rw [List.getElem?_eq_none (by simpa using hj)]
    split
    · omega
    · rfl
theorem place_at (S : List Bool) {n j : Nat} (hj : j < n) : (placeL S n n)[j]? = some (cnt S j) := by
  unfold placeL
  rw [List.getElem?_map, List.getElem?_range (by omega)]
  simp [hj]
def keepP (l : List InsM) (S : List Bool) (k : Nat) : List InsM := ((l.zip S).take k).filterMap fun x => if x.2 then some (reM (fun t => (cnt S t.toNat : Nat)) x.1) else none
theorem keepP_all {l : List InsM} {S : List Bool} (hs : S.length = l.length) : keepP l S l.length = keepM l S := by
  unfold keepP keepM
  rw [List.take_of_length_le (by rw [List.length_zip]; omega)]
theorem keepP_len {l : List InsM} {S : List Bool} (hs : S.length = l.length) (k : Nat) : (keepP l S k).length ≤ k := by
  have := keep_take_eq hs (fun t => (cnt S t.toNat : Nat)) k
  unfold keepP
  rw [this]; exact cnt_bound _ _
theorem keepP_step {l : List InsM} {S : List Bool} {k : Nat} {i : InsM} {b : Bool} (hi : l[k]? = some i) (hb : S[k]? = some b) : keepP l S (k + 1) = keepP l S k ++ (if b then [reM (fun t => (cnt S t.toNat : Nat)) i] else []) := by
  unfold keepP
  have hz : (l.zip S)[k]? = some (i, b) := by rw [List.getElem?_zip_eq_some]; exact ⟨hi, hb⟩
  rw [List.take_add_one, hz, List.filterMap_append]
  congr 1
  cases b <;> simp
theorem cnt_step {S : List Bool} {k : Nat} {b : Bool} (hb : S[k]? = some b) : cnt S (k + 1) = cnt S k + (if b then 1 else 0) := by
  rw [cnt_succ, hb]
  cases b <;> simp
theorem OwnN.set {w : World} {base g c j : Nat} {l : List Nat} (h : OwnN w base (.slice (some ⟨g, 0, none⟩) l.length c) l) (hj : j < l.length) (q : Nat) : OwnN (w.setCell ⟨g, j, none⟩ (.int .i64 (q : Int))) base (.slice (some ⟨g, 0, none⟩) l.length c) (l.set j q) := by
  have := rowSet h (j := j) (by omega) (.int .i64 (q : Int))
  unfold OwnN
  rw [List.length_set, List.map_set]; exact this
theorem OwnN.box {w : World} {base g n c j : Nat} {l : List Nat} (h : OwnN w base (.slice (some ⟨g, 0, none⟩) n c) l) (hn : n = l.length) (hj : j < l.length) : ∃ y, w.cell? ⟨g, j, none⟩ = some y ∧ w.frozen? ⟨g, j, none⟩ = false := by
  subst hn
  obtain ⟨h2, h3⟩ := rowAt h (j := j) (by omega)
  exact ⟨_, h2.trans (List.getElem?_eq_getElem (by rw [List.length_map]; exact hj)), h3⟩
theorem OwnN.get {w : World} {base g n c j q : Nat} {l : List Nat} (h : OwnN w base (.slice (some ⟨g, 0, none⟩) n c) l) (hj : l[j]? = some q) : w.cell? ⟨g, j, none⟩ = some (.int .i64 (q : Int)) := by
  obtain ⟨g', c', e, h2, _⟩ := h.at_ hj
  cases e; exact h2
theorem OwnN.made (w : World) (n : Nat) (hn : n ≤ maxLen) : OwnN (w.alloc (.cells (madeCells #[.int .i64 0] n) 3)) w.heap.size (.slice (some ⟨w.heap.size, 0, none⟩) n n) (List.replicate n 0) := by
  have e : madeCells #[.int .i64 0] n = (List.replicate n (Value.int .i64 0)).toArray := by
    apply Array.ext
    · simp [madeCells]
    · intro i h1 h2
      simp [madeCells, Nat.mod_one]
  rw [e]
  refine ⟨by simp, .inr ⟨w.heap.size, n, (List.replicate n (Value.int .i64 0)).toArray, by rw [List.length_replicate], Nat.le_refl _, blk_new w _, by simp, hn, by simp, by simp⟩⟩
theorem boxed6 (w : World) (b : Nat) (x0 x1 x2 x3 x4 x5 : Value) (h : w.heap[b]? = some (.cells #[x0, x1, x2, x3, x4, x5] 64 (0, 0))) :
    (w.cell? ⟨b, 0, none⟩ = some x0 ∧ w.cell? ⟨b, 1, none⟩ = some x1 ∧ w.cell? ⟨b, 2, none⟩ = some x2 ∧ w.cell? ⟨b, 3, none⟩ = some x3 ∧ w.cell? ⟨b, 4, none⟩ = some x4 ∧ w.cell? ⟨b, 5, none⟩ = some x5) ∧
    (w.frozen? ⟨b, 0, none⟩ = false ∧ w.frozen? ⟨b, 1, none⟩ = false ∧ w.frozen? ⟨b, 2, none⟩ = false ∧ w.frozen? ⟨b, 3, none⟩ = false ∧ w.frozen? ⟨b, 4, none⟩ = false ∧ w.frozen? ⟨b, 5, none⟩ = false) :=
  ⟨⟨blk_cell h rfl, blk_cell h rfl, blk_cell h rfl, blk_cell h rfl, blk_cell h rfl, blk_cell h rfl⟩, blk_free h, blk_free h, blk_free h, blk_free h, blk_free h, blk_free h⟩
theorem put6_blk {w : World} {b : Nat} {x0 x1 x2 x3 x4 x5 : Value} (h : w.heap[b]? = some (.cells #[x0, x1, x2, x3, x4, x5] 64 (0, 0))) (i : InsM) : (put6 w b 0 i).heap[b]? = some (.cells #[.int .i64 i.op, .int .i64 i.a, .int .i64 i.b, .int .i64 i.c, .int .i64 i.d, .int .i64 i.e] 64 (0, 0)) := by
  unfold put6
  exact blk_set (blk_set (blk_set (blk_set (blk_set (blk_set h _) _) _) _) _) _
set_option maxRecDepth 20000 in
set_option maxHeartbeats 8000000 in
theorem keep1_any (w : World) (v : Value) (l : List InsM) (h : RdL CeIns 6 w v l) (S : List Bool) (hs : KeepOk l S) (hg : GoodL l) (hl : l.length ≤ 2000000) (cb : Nat)
    (hcl : ∀ (u : World) (p : Nat) (s : Bool), Kp w u → S[p]? = some s → Calls Try.prog 50 #[.int .i64 (p : Int), .pointer (some ⟨cb, 0, none⟩)] u fun e w' => e = .returned (.bool s) ∧ Kp u w') :
    Calls Try.prog 49 #[v, .func (.func 50) #[] #[.pointer (some ⟨cb, 0, none⟩)]] w fun e w' => (∃ v', e = .returned v' ∧ OIns w' w.heap.size v' (keepM l S)) ∧ Kp w w' := by
  obtain ⟨A, cA, rfl, _⟩ := h.form
  have H := hid h; have HS := hid hs; have HG := hid hg; have HCL := hid hcl
  have hsl := hs.len
  have hpos := hg.pos
  obtain ⟨i0, hT, hi, hz, hz1', hz2, _, _⟩ := elInt
  have w0 : IntKind.i64.wrap ((l.length : Int) + 1) = (l.length : Int) + 1 := IntWalk.i64_in _ (by omega)
  have hmk : ∀ u : World, (Instr.makeSlice 52 (.int .i64 ((l.length : Int) + 1)) (.int .i64 ((l.length : Int) + 1))).run Try.prog u =
      .ok (.slice (some ⟨u.heap.size, 0, none⟩) (l.length + 1) (l.length + 1)) (u.alloc (.cells (madeCells #[.int .i64 0] (l.length + 1)) 3)) := fun u => by
    have h := run_make (P := Try.prog) u 52 3 i0 (.int .i64 0) hT hi hz .i64 .i64 ((l.length : Int) + 1) ((l.length : Int) + 1) (by omega) (Int.le_refl _) (by rw [hz2]; omega) (by omega)
    have e : ((l.length : Int) + 1).toNat = l.length + 1 := by omega
    rw [e] at h
    simpa [hz1', Value.cells] using h
  obtain ⟨n0, hn0⟩ : ∃ n, w.heap.size = n := ⟨_, rfl⟩
  have HP0 : Hid (OwnN (w.alloc (.cells (madeCells #[.int .i64 0] (l.length + 1)) 3)) n0 (.slice (some ⟨n0, 0, none⟩) (l.length + 1) (l.length + 1)) (placeL S l.length 0)) := hid (by rw [place_zero, ← hn0]; exact OwnN.made w (l.length + 1) (by unfold maxLen; omega))
  have HK0 : Hid (Below n0 w (w.alloc (.cells (madeCells #[.int .i64 0] (l.length + 1)) 3))) := hid (by rw [← hn0]; exact (Kp.refl w).alloc _)
  have HZ0 : Hid (n0 ≤ (w.alloc (.cells (madeCells #[.int .i64 0] (l.length + 1)) 3)).heap.size) := hid (by rw [← hn0]; simp)
  clear h hs hg hcl hT hi hz hz1' hz2
  go_enter Try.func49, Try.ntmps49
  go_wp2_with fail
  generalize (w.alloc (.cells (madeCells #[.int .i64 0] (l.length + 1)) 3)) = W at HP0 HK0 HZ0 ⊢
  clear hmk
  go_loopw [6, 19] (fun a b wr => ∃ k : Nat, k ≤ l.length ∧ a = .int .i64 (cnt S k : Int) ∧ b = .int .i64 (k : Int) ∧ OwnN wr n0 (.slice (some ⟨n0, 0, none⟩) (l.length + 1) (l.length + 1)) (placeL S l.length k) ∧ Below n0 w wr ∧ n0 ≤ wr.heap.size) (fun _ b _ => l.length - (intOf b).toNat)
  case atStart => exact ⟨0, Nat.zero_le _, rfl, rfl, HP0.out, HK0.out, HZ0.out⟩
  case round =>
    obtain ⟨k, hk, rfl, rfl, hpr, hkr, hzr⟩ := hrel
    have HPR := hid hpr; have HKR := hid hkr; have HZR := hid hzr
    by_cases hlt : k < l.length
    · have i1 : (k : Int) < (l.length : Int) := by omega
      have k1 : IntKind.i64.wrap ((k : Int) + 1) = (k : Int) + 1 := IntWalk.i64_in _ (by omega)
      have i2 : (k : Int) < (l.length : Int) + 1 := by omega
      have i3 : (0 : Int) ≤ (k : Int) := by omega
      have hcb := cnt_bound S k
      have k2 : IntKind.i64.wrap ((cnt S k : Int) + 1) = (cnt S k : Int) + 1 := IntWalk.i64_in _ (by omega)
      obtain ⟨b, hb⟩ : ∃ b, S[k]? = some b := ⟨_, List.getElem?_eq_getElem (by omega)⟩
      obtain ⟨zo, hz, fz⟩ := hpr.box (j := k) (by rw [place_len]) (by rw [place_len]; omega)
      have HPS : Hid (OwnN (wr.setCell ⟨n0, k, none⟩ (.int .i64 (cnt S k : Int))) n0 (.slice (some ⟨n0, 0, none⟩) (l.length + 1) (l.length + 1)) (placeL S l.length (k + 1))) := hid (by
        have := OwnN.set (l := placeL S l.length k) (c := l.length + 1) (j := k) (by rw [place_len]; exact hpr) (by rw [place_len]; omega) (cnt S k)
        rw [place_set S hlt, place_len] at this; exact this)
      have HKS : Hid (Below n0 w (wr.setCell ⟨n0, k, none⟩ (.int .i64 (cnt S k : Int)))) := hid (hkr.setCell (p := ⟨n0, k, none⟩) (Nat.le_refl _) _)
      have HZS : Hid (n0 ≤ (wr.setCell ⟨n0, k, none⟩ (.int .i64 (cnt S k : Int))).heap.size) := hid (by simpa [World.setCell] using hzr)
      have HC := hid (HCL.out (wr.setCell ⟨n0, k, none⟩ (.int .i64 (cnt S k : Int))) k b (by show Below _ _ _; rw [hn0]; exact HKS.out) hb)
      have HBB := hid hb
      clear hpr hkr hzr hb
      cases b with
      | false =>
        go_wp2_with (go_at_call 50; refine HC.out.mono ?_; rintro e w2 ⟨rfl, hk2⟩; have HPS2 := hid (ownsRow_keep HPS.out hk2); have HKS2 := hid (Below.trans HKS.out (Below.mono hk2 HZS.out)); have HZS2 := hid (Nat.le_trans HZS.out hk2.le); clear hk2)
        exact ⟨⟨k + 1, hlt, by rw [cnt_step HBB.out]; rfl, by congr 1, HPS2.out, HKS2.out, HZS2.out⟩, by simp only [intOf, Int.toNat_natCast]; omega⟩
      | true =>
        go_wp2_with (go_at_call 50; refine HC.out.mono ?_; rintro e w2 ⟨rfl, hk2⟩; have HPS2 := hid (ownsRow_keep HPS.out hk2); have HKS2 := hid (Below.trans HKS.out (Below.mono hk2 HZS.out)); have HZS2 := hid (Nat.le_trans HZS.out hk2.le); clear hk2)
        exact ⟨⟨k + 1, hlt, by rw [cnt_step HBB.out]; rfl, by congr 1, HPS2.out, HKS2.out, HZS2.out⟩, by simp only [intOf, Int.toNat_natCast]; omega⟩
    · have i1 : ¬ (k : Int) < (l.length : Int) := by omega
      obtain rfl : k = l.length := by omega
      clear hpr hkr hzr hlt hk
      go_wp2_with fail
      obtain ⟨wp, hwp⟩ : ∃ x, x = wr := ⟨_, rfl⟩
      subst hwp
      go_loopw [8, 34] (fun a b wr => ∃ (k : Nat) (A : Option Addr) (c : Nat), k ≤ l.length ∧ b = .int .i64 (k : Int) ∧ a = .slice A (keepP l S k).length c ∧ OIns wr n0 (.slice A (keepP l S k).length c) (keepP l S k) ∧ OwnN wr n0 (.slice (some ⟨n0, 0, none⟩) (l.length + 1) (l.length + 1)) (placeL S l.length l.length) ∧ Below n0 w wr ∧ n0 ≤ wr.heap.size) (fun _ b _ => l.length - (intOf b).toNat)
      case atStart => exact ⟨0, none, 0, Nat.zero_le _, rfl, by unfold keepP; rfl, by unfold keepP; exact OwnL.nil _ _ _ _ _, HPR.out, HKR.out, HZR.out⟩
      case round =>
        obtain ⟨k, Ao, co, hk, rfl, rfl, hor, hpr, hkr, hzr⟩ := hrel
        by_cases hlt : k < l.length
        · have i1 : (k : Int) < (l.length : Int) := by omega
          have k1 : IntKind.i64.wrap ((k : Int) + 1) = (k : Int) + 1 := IntWalk.i64_in _ (by omega)
          obtain ⟨i, hi⟩ : ∃ i, l[k]? = some i := ⟨_, List.getElem?_eq_getElem hlt⟩
          have hkw : Kp w wr := by show Below _ _ _; rw [hn0]; exact hkr
          obtain ⟨b2, off, rfl, hb2, g0, g1, g2, g3, g4, g5, hoks⟩ := at_ins (H.out.kp CeIns.kp hkw) hi
          obtain ⟨b, hb⟩ : ∃ b, S[k]? = some b := ⟨_, List.getElem?_eq_getElem (by omega)⟩
          have HI := hid hi; have HB := hid hb; have HOK := hid hoks
          have hka := (Kp.refl wr).alloc (.cells #[.int .i64 i.op, .int .i64 i.a, .int .i64 i.b, .int .i64 i.c, .int .i64 i.d, .int .i64 i.e] 64)
          have HBX := hid (blk_new wr (.cells #[.int .i64 i.op, .int .i64 i.a, .int .i64 i.b, .int .i64 i.c, .int .i64 i.d, .int .i64 i.e] 64))
          have HC := hid (HCL.out (wr.alloc (.cells #[.int .i64 i.op, .int .i64 i.a, .int .i64 i.b, .int .i64 i.c, .int .i64 i.d, .int .i64 i.e] 64)) k b (hkw.trans hka) hb)
          have HOR := hid hor; have HPR2 := hid hpr; have HKR2 := hid hkr; have HZR2 := hid hzr; have HKA := hid hka
          have HKL := hid (keepP_len hsl k)
          clear hor hpr hkr hzr hka hkw hi hb hoks
          cases b with
          | false =>
            go_wp2_with (go_at_call 50; refine HC.out.mono ?_; rintro e w2 ⟨rfl, hk2⟩; have HKX := hid (HKA.out.trans hk2); clear hk2)
            have e1 : keepP l S (k + 1) = keepP l S k := by rw [keepP_step HI.out HB.out]; simp
            exact ⟨⟨k + 1, _, _, hlt, by congr 1, by rw [e1], by rw [e1]; exact HOR.out.kp CeIns.kp HKX.out, ownsRow_keep HPR2.out HKX.out, Below.trans HKR2.out (Below.mono HKX.out HZR2.out), Nat.le_trans HZR2.out HKX.out.le⟩, by simp only [intOf, Int.toNat_natCast]; omega⟩
          | true =>
            have htg := fun w' => target_any w' i
            unfold tgtV at htg
            cases ht : targetM i with
            | none =>
              rw [ht] at htg
              have e1 : keepP l S (k + 1) = keepP l S k ++ [i] := by rw [keepP_step HI.out HB.out]; unfold reM; rw [ht]; rfl
              have HE1 := hid e1
              clear ht e1
              unfold insV at htg
              go_wp2_with first | (go_at_call 50; refine HC.out.mono ?_; rintro e w2 ⟨rfl, hk2⟩; have HBX2 := hid ((hk2.block _ (blk_lt HBX.out)).trans HBX.out); obtain ⟨⟨q0, q1, q2, q3, q4, q5⟩, _⟩ := boxed6 _ _ _ _ _ _ _ _ HBX2.out; have ql := blk_lt HBX2.out; have HKX := hid (HKA.out.trans hk2); clear hk2) | (go_at_call 58; refine (htg _).mono ?_; rintro e w3 ⟨rfl, hk3⟩; have HBX3 := hid ((hk3.block _ (blk_lt HBX2.out)).trans HBX2.out); obtain ⟨⟨r0, r1, r2, r3, r4, r5⟩, _⟩ := boxed6 _ _ _ _ _ _ _ _ HBX3.out; have rl := blk_lt HBX3.out; have HKY := hid (HKX.out.trans hk3); have HO3 := hid (HOR.out.kp CeIns.kp HKY.out); have HZ3 := hid (Nat.le_trans HZR2.out HKY.out.le); clear hk3) | (at_builtin; obtain ⟨xs, hx1, hx2⟩ := HO3.out; have HX2 := hid hx2; refine app_lit_at w3.heap.size ?r0 elIns ?r1 (.tmp 55) (.tmp 57) ?r2 (base := n0) hx1 ?r3 #[.int .i64 i.op, .int .i64 i.a, .int .i64 i.b, .int .i64 i.c, .int .i64 i.d, .int .i64 i.e] 64 1 1 ?r4 ?r5 ?r6 ?r7 ?r8 HZ3.out ?r9)
              case r0 => rfl
              case r1 => rfl
              case r2 => rfl
              case r3 => rfl
              case r4 => rfl
              case r5 => rfl
              case r6 => repeat' (first | exact rfl | refine ⟨?_, ?_⟩)
              case r7 => have := HKL.out; unfold maxLen; omega
              case r8 => have := HKL.out; omega
              case r9 =>
                intro v6 w6 o6 g6 m6 b6
                obtain ⟨A6, c6, rfl⟩ := own_form o6
                have ht6 := Touch.of_grown hx1 g6
                have HP6 := hid (ownsRow_touch (by decide) (ownsRow_keep HPR2.out HKY.out) ht6)
                have HK6 := hid (Below.trans (Below.trans HKR2.out (Below.mono HKY.out HZR2.out)) b6)
                have HZ6 := hid (Nat.le_trans HZ3.out b6.size)
                have HO6 : Hid (OIns w6 n0 (.slice A6 ((keepP l S k).length + 1) c6) (keepP l S (k + 1))) := hid (by rw [HE1.out]; exact OwnL.snoc rfl HX2.out (fun _ _ h => CeIns.any h) ⟨rfl, HOK.out⟩ rfl o6)
                have hle : (keepP l S (k + 1)).length = (keepP l S k).length + 1 := by rw [HE1.out]; simp
                clear o6 g6 m6 b6 ht6 hx1
                go_wp2
                exact ⟨⟨k + 1, A6, c6, hlt, by congr 1, by rw [hle], by rw [hle]; exact HO6.out, HP6.out, HK6.out, HZ6.out⟩, by simp only [intOf, Int.toNat_natCast]; omega⟩
            | some t0 =>
              rw [ht] at htg
              have hb0 := HG.out.at_ HI.out ht
              obtain ⟨t, rfl⟩ : ∃ t : Nat, t0 = (t : Int) := ⟨t0.toNat, by omega⟩
              have htl : t < l.length := by omega
              have e1 : keepP l S (k + 1) = keepP l S k ++ [aimM i (cnt S t : Int)] := by rw [keepP_step HI.out HB.out]; unfold reM; rw [ht]; simp
              have HT := hid ht
              have HE1 := hid e1
              have i2 : (t : Int) < (l.length : Int) + 1 := by omega
              have i3 : (0 : Int) ≤ (t : Int) := by omega
              clear ht e1 hb0
              unfold insV at htg
              go_wp2_with first | (go_at_call 50; refine HC.out.mono ?_; rintro e w2 ⟨rfl, hk2⟩; have HBX2 := hid ((hk2.block _ (blk_lt HBX.out)).trans HBX.out); obtain ⟨⟨q0, q1, q2, q3, q4, q5⟩, _⟩ := boxed6 _ _ _ _ _ _ _ _ HBX2.out; have ql := blk_lt HBX2.out; have HKX := hid (HKA.out.trans hk2); clear hk2) | (go_at_call 58; refine (htg _).mono ?_; rintro e w3 ⟨rfl, hk3⟩; have HBX3 := hid ((hk3.block _ (blk_lt HBX2.out)).trans HBX2.out); obtain ⟨⟨r0, r1, r2, r3, r4, r5⟩, _⟩ := boxed6 _ _ _ _ _ _ _ _ HBX3.out; have rl := blk_lt HBX3.out; have HKY := hid (HKX.out.trans hk3); have HO3 := hid (HOR.out.kp CeIns.kp HKY.out); have HZ3 := hid (Nat.le_trans HZR2.out HKY.out.le); clear hk3)
              refine wp_region_last 6 [[], [], [], [1, 2], [3], [0, 4], [5]] (fun u => Kp w3 u)
                [fun (y : Value) (u : World) => y = (.agg #[.int .i64 i.op, .int .i64 i.a, .int .i64 i.b, .int .i64 i.c, .int .i64 i.d, .int .i64 i.e] : Value),
                 fun (y : Value) (u : World) => y = (.slice (some ⟨n0, 0, none⟩) (l.length + 1) (l.length + 1) : Value),
                 fun (y : Value) (u : World) => y = (.int .i64 (t : Int) : Value),
                 fun (y : Value) (u : World) => y = (.pointer (some ⟨n0, t, none⟩) : Value),
                 fun (y : Value) (u : World) => y = (.int .i64 (cnt S t : Int) : Value),
                 fun (y : Value) (u : World) => y = (insV (aimM i (cnt S t : Int)) : Value)]
                (by kernel_rfl) (by kernel_rfl) (by kernel_rfl) (by kernel_rfl) (by kernel_rfl) (by kernel_rfl) ((Kp.refl _).drew) (fun _ _ hk h => h.trans hk) ⟨fun _ _ _ _ h => h, fun _ _ _ _ h => h, fun _ _ _ _ h => h, fun _ _ _ _ h => h, fun _ _ _ _ h => h, fun _ _ _ _ h => h, trivial⟩ ⟨?sb0, ?sb1, ?sb2, ?sb3, ?sb4, ?sb5, trivial⟩ ⟨?hEb, trivial⟩
              case sb0 =>
                intro x u hg hd K hK
                clear hd
                have hbx := (hg.block _ (blk_lt HBX3.out)).trans HBX3.out
                obtain ⟨⟨q0, q1, q2, q3, q4, q5⟩, _⟩ := boxed6 _ _ _ _ _ _ _ _ hbx
                clear hbx
                refine ⟨?_⟩
                simp only [putsFrom, Act.put, List.setIfInBounds_toArray, List.set_cons_zero, List.set_cons_succ, Nat.reduceAdd] at hK ⊢
                go_simp
                exact hK.out _ _ (Kp.refl _) rfl
              case sb1 =>
                intro x u hg hd K hK
                clear hd
                refine ⟨?_⟩
                simp only [putsFrom, Act.put, List.setIfInBounds_toArray, List.set_cons_zero, List.set_cons_succ, Nat.reduceAdd] at hK ⊢
                go_simp
                exact hK.out _ _ (Kp.refl _) rfl
              case sb2 =>
                intro x u hg hd K hK
                clear hd
                refine ⟨?_⟩
                simp only [putsFrom, Act.put, List.setIfInBounds_toArray, List.set_cons_zero, List.set_cons_succ, Nat.reduceAdd] at hK ⊢
                go_simp
                exact hK.out _ _ (Kp.refl _) rfl
              case sb3 =>
                intro x u hg hd K hK
                have d1 : (x 1) = .slice (some ⟨n0, 0, none⟩) (l.length + 1) (l.length + 1) := And.left hd
                have d2 : (x 2) = .int .i64 (t : Int) := And.left (And.right hd)
                clear hd
                refine ⟨?_⟩
                simp only [putsFrom, Act.put, List.setIfInBounds_toArray, List.set_cons_zero, List.set_cons_succ, Nat.reduceAdd, d1, d2] at hK ⊢
                go_simp
                exact hK.out _ _ (Kp.refl _) rfl
              case sb4 =>
                intro x u hg hd K hK
                have d3 : (x 3) = .pointer (some ⟨n0, t, none⟩) := And.left hd
                clear hd
                have zp := OwnN.get (ownsRow_keep (ownsRow_keep HPR2.out HKY.out) hg) (place_at S htl)
                refine ⟨?_⟩
                simp only [putsFrom, Act.put, List.setIfInBounds_toArray, List.set_cons_zero, List.set_cons_succ, Nat.reduceAdd, d3] at hK ⊢
                go_simp
                exact hK.out _ _ (Kp.refl _) rfl
              case sb5 =>
                intro x u hg hd K hK
                have d0 : (x 0) = .agg #[.int .i64 i.op, .int .i64 i.a, .int .i64 i.b, .int .i64 i.c, .int .i64 i.d, .int .i64 i.e] := And.left hd
                have d4 : (x 4) = .int .i64 (cnt S t : Int) := And.left (And.right hd)
                clear hd
                refine ⟨?_⟩
                simp only [putsFrom, Act.put, List.setIfInBounds_toArray, List.set_cons_zero, List.set_cons_succ, Nat.reduceAdd, d0, d4] at hK ⊢
                go_simp
                go_at_call 71
                have hc := aim_any u i (cnt S t : Int)
                refine hc.mono ?_
                clear hc
                rintro e u' ⟨rfl, hk⟩
                dsimp only
                exact hK.out _ _ hk rfl
              intro x u hg he K hK
              have d0 : (x 0) = .agg #[.int .i64 i.op, .int .i64 i.a, .int .i64 i.b, .int .i64 i.c, .int .i64 i.d, .int .i64 i.e] := And.left he
              have d1 : (x 1) = .slice (some ⟨n0, 0, none⟩) (l.length + 1) (l.length + 1) := And.left (And.right he)
              have d2 : (x 2) = .int .i64 (t : Int) := And.left (And.right (And.right he))
              have d3 : (x 3) = .pointer (some ⟨n0, t, none⟩) := And.left (And.right (And.right (And.right he)))
              have d4 : (x 4) = .int .i64 (cnt S t : Int) := And.left (And.right (And.right (And.right (And.right he))))
              have d5 : (x 5) = insV (aimM i (cnt S t : Int)) := And.left (And.right (And.right (And.right (And.right (And.right he)))))
              clear he
              have HUK := hid hg
              have HBU := hid ((hg.block _ (blk_lt HBX3.out)).trans HBX3.out)
              obtain ⟨⟨z0, z1, z2, z3, z4, z5⟩, ⟨f0, f1, f2, f3, f4, f5⟩⟩ := boxed6 _ _ _ _ _ _ _ _ HBU.out
              unfold insV at d5
              refine ⟨?_⟩
              simp only [putsFrom, Act.put, List.setIfInBounds_toArray, List.set_cons_zero, List.set_cons_succ, Nat.reduceAdd, d0, d1, d2, d3, d4, d5] at hK ⊢
              go_simp
              refine hK.out undef _ ⟨?_⟩
              clear hK
              clear d0 d1 d2 d3 d4 d5
              have HBV := hid (put6_blk HBU.out (aimM i (cnt S t : Int)))
              have HKV := hid (show Kp wr (put6 u wr.heap.size 0 (aimM i (cnt S t : Int))) from Below.grown (HKY.out.trans HUK.out) (put6_grown u wr.heap.size 0 _) (HKY.out.trans HUK.out).le (fun q hq => by injection hq with hq; subst hq; exact Nat.le_refl _))
              have hw3 : put6 u wr.heap.size 0 (aimM i (cnt S t : Int)) = put6 u wr.heap.size 0 (aimM i (cnt S t : Int)) := rfl
              conv at hw3 => lhs; unfold put6
              simp only [Nat.zero_add] at hw3
              rw [hw3]
              have HJ := hid (ceIns_re (w := u) (i := i) (f := fun _ => (cnt S t : Int)) ⟨rfl, HOK.out⟩ (fun _ _ => okI_nat (Nat.le_trans (cnt_bound S t) (by omega))))
              have ej : reM (fun _ => (cnt S t : Int)) i = aimM i (cnt S t : Int) := by unfold reM; rw [HT.out]
              rw [ej] at HJ
              clear z0 z1 z2 z3 z4 z5 f0 f1 f2 f3 f4 f5 hw3 ej
              generalize put6 u wr.heap.size 0 (aimM i (cnt S t : Int)) = w4 at HBV HKV ⊢
              generalize aimM i (cnt S t : Int) = j at HBV HE1 HJ ⊢
              obtain ⟨⟨q0, q1, q2, q3, q4, q5⟩, _⟩ := boxed6 _ _ _ _ _ _ _ _ HBV.out
              have ql := blk_lt HBV.out
              have HO4 := hid (HOR.out.kp CeIns.kp HKV.out)
              have HZ4 := hid (Nat.le_trans HZR2.out HKV.out.le)
              obtain ⟨xs, hx1, hx2⟩ := HO4.out
              have HX2 := hid hx2
              clear hx2
              go_wp2_with (at_builtin; refine app_lit_at w4.heap.size ?r0 elIns ?r1 (.tmp 55) (.tmp 57) ?r2 (base := n0) hx1 ?r3 #[.int .i64 j.op, .int .i64 j.a, .int .i64 j.b, .int .i64 j.c, .int .i64 j.d, .int .i64 j.e] 64 1 1 ?r4 ?r5 ?r6 ?r7 ?r8 HZ4.out ?r9)
              case r0 => rfl
              case r1 => rfl
              case r2 => rfl
              case r3 => rfl
              case r4 => rfl
              case r5 => rfl
              case r6 => repeat' (first | exact rfl | refine ⟨?_, ?_⟩)
              case r7 => have := HKL.out; unfold maxLen; omega
              case r8 => have := HKL.out; omega
              case r9 =>
                intro v6 w6 o6 g6 m6 b6
                obtain ⟨A6, c6, rfl⟩ := own_form o6
                have ht6 := Touch.of_grown hx1 g6
                have HP6 := hid (ownsRow_touch (by decide) (ownsRow_keep HPR2.out HKV.out) ht6)
                have HK6 := hid (Below.trans (Below.trans HKR2.out (Below.mono HKV.out HZR2.out)) b6)
                have HZ6 := hid (Nat.le_trans HZ4.out b6.size)
                have HO6 : Hid (OIns w6 n0 (.slice A6 ((keepP l S k).length + 1) c6) (keepP l S (k + 1))) := hid (by rw [HE1.out]; exact OwnL.snoc rfl HX2.out (fun _ _ h => CeIns.any h) (CeIns.any (w := u) HJ.out) rfl o6)
                have hle : (keepP l S (k + 1)).length = (keepP l S k).length + 1 := by rw [HE1.out]; simp
                clear o6 g6 m6 b6 ht6 hx1
                go_wp2
                exact ⟨⟨k + 1, A6, c6, hlt, by congr 1, by rw [hle], by rw [hle]; exact HO6.out, HP6.out, HK6.out, HZ6.out⟩, by simp only [intOf, Int.toNat_natCast]; omega⟩
        · have i1 : ¬ (k : Int) < (l.length : Int) := by omega
          obtain rfl : k = l.length := by omega
          rw [keepP_all hsl] at hor ⊢
          have HOR := hid hor; have HKR2 := hid hkr
          clear hor hpr hkr hzr hlt hk
          go_wp2
          go_ret
          exact ⟨⟨_, rfl, HOR.out⟩, by show Below _ _ _; rw [hn0]; exact HKR2.out⟩
set_option maxRecDepth 20000 in
set_option maxHeartbeats 8000000 in
theorem keep2_any (w : World) (v : Value) (l : List InsM) (h : RdL CeIns 6 w v l) (S : List Bool) (hs : KeepOk l S) (hg : GoodL l) (hl : l.length ≤ 2000000) (cb : Nat)
    (hcl : ∀ (u : World) (p : Nat) (s : Bool), Kp w u → S[p]? = some s → Calls Try.prog 51 #[.int .i64 (p : Int), .pointer (some ⟨cb, 0, none⟩)] u fun e w' => e = .returned (.bool s) ∧ Kp u w') :
    Calls Try.prog 49 #[v, .func (.func 51) #[] #[.pointer (some ⟨cb, 0, none⟩)]] w fun e w' => (∃ v', e = .returned v' ∧ OIns w' w.heap.size v' (keepM l S)) ∧ Kp w w' := by
  obtain ⟨A, cA, rfl, _⟩ := h.form
  have H := hid h; have HS := hid hs; have HG := hid hg; have HCL := hid hcl
  have hsl := hs.len
  have hpos := hg.pos
  obtain ⟨i0, hT, hi, hz, hz1', hz2, _, _⟩ := elInt
  have w0 : IntKind.i64.wrap ((l.length : Int) + 1) = (l.length : Int) + 1 := IntWalk.i64_in _ (by omega)
  have hmk : ∀ u : World, (Instr.makeSlice 52 (.int .i64 ((l.length : Int) + 1)) (.int .i64 ((l.length : Int) + 1))).run Try.prog u =
      .ok (.slice (some ⟨u.heap.size, 0, none⟩) (l.length + 1) (l.length + 1)) (u.alloc (.cells (madeCells #[.int .i64 0] (l.length + 1)) 3)) := fun u => by
    have h := run_make (P := Try.prog) u 52 3 i0 (.int .i64 0) hT hi hz .i64 .i64 ((l.length : Int) + 1) ((l.length : Int) + 1) (by omega) (Int.le_refl _) (by rw [hz2]; omega) (by omega)
    have e : ((l.length : Int) + 1).toNat = l.length + 1 := by omega
    rw [e] at h
    simpa [hz1', Value.cells] using h
  obtain ⟨n0, hn0⟩ : ∃ n, w.heap.size = n := ⟨_, rfl⟩
  have HP0 : Hid (OwnN (w.alloc (.cells (madeCells #[.int .i64 0] (l.length + 1)) 3)) n0 (.slice (some ⟨n0, 0, none⟩) (l.length + 1) (l.length + 1)) (placeL S l.length 0)) := hid (by rw [place_zero, ← hn0]; exact OwnN.made w (l.length + 1) (by unfold maxLen; omega))
  have HK0 : Hid (Below n0 w (w.alloc (.cells (madeCells #[.int .i64 0] (l.length + 1)) 3))) := hid (by rw [← hn0]; exact (Kp.refl w).alloc _)
  have HZ0 : Hid (n0 ≤ (w.alloc (.cells (madeCells #[.int .i64 0] (l.length + 1)) 3)).heap.size) := hid (by rw [← hn0]; simp)
  clear h hs hg hcl hT hi hz hz1' hz2
  go_enter Try.func49, Try.ntmps49
  go_wp2_with fail
  generalize (w.alloc (.cells (madeCells #[.int .i64 0] (l.length + 1)) 3)) = W at HP0 HK0 HZ0 ⊢
  clear hmk
  go_loopw [6, 19] (fun a b wr => ∃ k : Nat, k ≤ l.length ∧ a = .int .i64 (cnt S k : Int) ∧ b = .int .i64 (k : Int) ∧ OwnN wr n0 (.slice (some ⟨n0, 0, none⟩) (l.length + 1) (l.length + 1)) (placeL S l.length k) ∧ Below n0 w wr ∧ n0 ≤ wr.heap.size) (fun _ b _ => l.length - (intOf b).toNat)
  case atStart => exact ⟨0, Nat.zero_le _, rfl, rfl, HP0.out, HK0.out, HZ0.out⟩
  case round =>
    obtain ⟨k, hk, rfl, rfl, hpr, hkr, hzr⟩ := hrel
    have HPR := hid hpr; have HKR := hid hkr; have HZR := hid hzr
    by_cases hlt : k < l.length
    · have i1 : (k : Int) < (l.length : Int) := by omega
      have k1 : IntKind.i64.wrap ((k : Int) + 1) = (k : Int) + 1 := IntWalk.i64_in _ (by omega)
      have i2 : (k : Int) < (l.length : Int) + 1 := by omega
      have i3 : (0 : Int) ≤ (k : Int) := by omega
      have hcb := cnt_bound S k
      have k2 : IntKind.i64.wrap ((cnt S k : Int) + 1) = (cnt S k : Int) + 1 := IntWalk.i64_in _ (by omega)
      obtain ⟨b, hb⟩ : ∃ b, S[k]? = some b := ⟨_, List.getElem?_eq_getElem (by omega)⟩
      obtain ⟨zo, hz, fz⟩ := hpr.box (j := k) (by rw [place_len]) (by rw [place_len]; omega)
      have HPS : Hid (OwnN (wr.setCell ⟨n0, k, none⟩ (.int .i64 (cnt S k : Int))) n0 (.slice (some ⟨n0, 0, none⟩) (l.length + 1) (l.length + 1)) (placeL S l.length (k + 1))) := hid (by
        have := OwnN.set (l := placeL S l.length k) (c := l.length + 1) (j := k) (by rw [place_len]; exact hpr) (by rw [place_len]; omega) (cnt S k)
        rw [place_set S hlt, place_len] at this; exact this)
      have HKS : Hid (Below n0 w (wr.setCell ⟨n0, k, none⟩ (.int .i64 (cnt S k : Int)))) := hid (hkr.setCell (p := ⟨n0, k, none⟩) (Nat.le_refl _) _)
      have HZS : Hid (n0 ≤ (wr.setCell ⟨n0, k, none⟩ (.int .i64 (cnt S k : Int))).heap.size) := hid (by simpa [World.setCell] using hzr)
      have HC := hid (HCL.out (wr.setCell ⟨n0, k, none⟩ (.int .i64 (cnt S k : Int))) k b (by show Below _ _ _; rw [hn0]; exact HKS.out) hb)
      have HBB := hid hb
      clear hpr hkr hzr hb
      cases b with
      | false =>
        go_wp2_with (go_at_call 51; refine HC.out.mono ?_; rintro e w2 ⟨rfl, hk2⟩; have HPS2 := hid (ownsRow_keep HPS.out hk2); have HKS2 := hid (Below.trans HKS.out (Below.mono hk2 HZS.out)); have HZS2 := hid (Nat.le_trans HZS.out hk2.le); clear hk2)
        exact ⟨⟨k + 1, hlt, by rw [cnt_step HBB.out]; rfl, by congr 1, HPS2.out, HKS2.out, HZS2.out⟩, by simp only [intOf, Int.toNat_natCast]; omega⟩
      | true =>
        go_wp2_with (go_at_call 51; refine HC.out.mono ?_; rintro e w2 ⟨rfl, hk2⟩; have HPS2 := hid (ownsRow_keep HPS.out hk2); have HKS2 := hid (Below.trans HKS.out (Below.mono hk2 HZS.out)); have HZS2 := hid (Nat.le_trans HZS.out hk2.le); clear hk2)
        exact ⟨⟨k + 1, hlt, by rw [cnt_step HBB.out]; rfl, by congr 1, HPS2.out, HKS2.out, HZS2.out⟩, by simp only [intOf, Int.toNat_natCast]; omega⟩
    · have i1 : ¬ (k : Int) < (l.length : Int) := by omega
      obtain rfl : k = l.length := by omega
      clear hpr hkr hzr hlt hk
      go_wp2_with fail
      obtain ⟨wp, hwp⟩ : ∃ x, x = wr := ⟨_, rfl⟩
      subst hwp
      go_loopw [8, 34] (fun a b wr => ∃ (k : Nat) (A : Option Addr) (c : Nat), k ≤ l.length ∧ b = .int .i64 (k : Int) ∧ a = .slice A (keepP l S k).length c ∧ OIns wr n0 (.slice A (keepP l S k).length c) (keepP l S k) ∧ OwnN wr n0 (.slice (some ⟨n0, 0, none⟩) (l.length + 1) (l.length + 1)) (placeL S l.length l.length) ∧ Below n0 w wr ∧ n0 ≤ wr.heap.size) (fun _ b _ => l.length - (intOf b).toNat)
      case atStart => exact ⟨0, none, 0, Nat.zero_le _, rfl, by unfold keepP; rfl, by unfold keepP; exact OwnL.nil _ _ _ _ _, HPR.out, HKR.out, HZR.out⟩
      case round =>
        obtain ⟨k, Ao, co, hk, rfl, rfl, hor, hpr, hkr, hzr⟩ := hrel
        by_cases hlt : k < l.length
        · have i1 : (k : Int) < (l.length : Int) := by omega
          have k1 : IntKind.i64.wrap ((k : Int) + 1) = (k : Int) + 1 := IntWalk.i64_in _ (by omega)
          obtain ⟨i, hi⟩ : ∃ i, l[k]? = some i := ⟨_, List.getElem?_eq_getElem hlt⟩
          have hkw : Kp w wr := by show Below _ _ _; rw [hn0]; exact hkr
          obtain ⟨b2, off, rfl, hb2, g0, g1, g2, g3, g4, g5, hoks⟩ := at_ins (H.out.kp CeIns.kp hkw) hi
          obtain ⟨b, hb⟩ : ∃ b, S[k]? = some b := ⟨_, List.getElem?_eq_getElem (by omega)⟩
          have HI := hid hi; have HB := hid hb; have HOK := hid hoks
          have hka := (Kp.refl wr).alloc (.cells #[.int .i64 i.op, .int .i64 i.a, .int .i64 i.b, .int .i64 i.c, .int .i64 i.d, .int .i64 i.e] 64)
          have HBX := hid (blk_new wr (.cells #[.int .i64 i.op, .int .i64 i.a, .int .i64 i.b, .int .i64 i.c, .int .i64 i.d, .int .i64 i.e] 64))
          have HC := hid (HCL.out (wr.alloc (.cells #[.int .i64 i.op, .int .i64 i.a, .int .i64 i.b, .int .i64 i.c, .int .i64 i.d, .int .i64 i.e] 64)) k b (hkw.trans hka) hb)
          have HOR := hid hor; have HPR2 := hid hpr; have HKR2 := hid hkr; have HZR2 := hid hzr; have HKA := hid hka
          have HKL := hid (keepP_len hsl k)
          clear hor hpr hkr hzr hka hkw hi hb hoks
          cases b with
          | false =>
            go_wp2_with (go_at_call 51; refine HC.out.mono ?_; rintro e w2 ⟨rfl, hk2⟩; have HKX := hid (HKA.out.trans hk2); clear hk2)
            have e1 : keepP l S (k + 1) = keepP l S k := by rw [keepP_step HI.out HB.out]; simp
            exact ⟨⟨k + 1, _, _, hlt, by congr 1, by rw [e1], by rw [e1]; exact HOR.out.kp CeIns.kp HKX.out, ownsRow_keep HPR2.out HKX.out, Below.trans HKR2.out (Below.mono HKX.out HZR2.out), Nat.le_trans HZR2.out HKX.out.le⟩, by simp only [intOf, Int.toNat_natCast]; omega⟩
          | true =>
            have htg := fun w' => target_any w' i
            unfold tgtV at htg
            cases ht : targetM i with
            | none =>
              rw [ht] at htg
              have e1 : keepP l S (k + 1) = keepP l S k ++ [i] := by rw [keepP_step HI.out HB.out]; unfold reM; rw [ht]; rfl
              have HE1 := hid e1
              clear ht e1
              unfold insV at htg
              go_wp2_with first | (go_at_call 51; refine HC.out.mono ?_; rintro e w2 ⟨rfl, hk2⟩; have HBX2 := hid ((hk2.block _ (blk_lt HBX.out)).trans HBX.out); obtain ⟨⟨q0, q1, q2, q3, q4, q5⟩, _⟩ := boxed6 _ _ _ _ _ _ _ _ HBX2.out; have ql := blk_lt HBX2.out; have HKX := hid (HKA.out.trans hk2); clear hk2) | (go_at_call 58; refine (htg _).mono ?_; rintro e w3 ⟨rfl, hk3⟩; have HBX3 := hid ((hk3.block _ (blk_lt HBX2.out)).trans HBX2.out); obtain ⟨⟨r0, r1, r2, r3, r4, r5⟩, _⟩ := boxed6 _ _ _ _ _ _ _ _ HBX3.out; have rl := blk_lt HBX3.out; have HKY := hid (HKX.out.trans hk3); have HO3 := hid (HOR.out.kp CeIns.kp HKY.out); have HZ3 := hid (Nat.le_trans HZR2.out HKY.out.le); clear hk3) | (at_builtin; obtain ⟨xs, hx1, hx2⟩ := HO3.out; have HX2 := hid hx2; refine app_lit_at w3.heap.size ?r0 elIns ?r1 (.tmp 55) (.tmp 57) ?r2 (base := n0) hx1 ?r3 #[.int .i64 i.op, .int .i64 i.a, .int .i64 i.b, .int .i64 i.c, .int .i64 i.d, .int .i64 i.e] 64 1 1 ?r4 ?r5 ?r6 ?r7 ?r8 HZ3.out ?r9)
              case r0 => rfl
              case r1 => rfl
              case r2 => rfl
              case r3 => rfl
              case r4 => rfl
              case r5 => rfl
              case r6 => repeat' (first | exact rfl | refine ⟨?_, ?_⟩)
              case r7 => have := HKL.out; unfold maxLen; omega
              case r8 => have := HKL.out; omega
              case r9 =>
                intro v6 w6 o6 g6 m6 b6
                obtain ⟨A6, c6, rfl⟩ := own_form o6
                have ht6 := Touch.of_grown hx1 g6
                have HP6 := hid (ownsRow_touch (by decide) (ownsRow_keep HPR2.out HKY.out) ht6)
                have HK6 := hid (Below.trans (Below.trans HKR2.out (Below.mono HKY.out HZR2.out)) b6)
                have HZ6 := hid (Nat.le_trans HZ3.out b6.size)
                have HO6 : Hid (OIns w6 n0 (.slice A6 ((keepP l S k).length + 1) c6) (keepP l S (k + 1))) := hid (by rw [HE1.out]; exact OwnL.snoc rfl HX2.out (fun _ _ h => CeIns.any h) ⟨rfl, HOK.out⟩ rfl o6)
                have hle : (keepP l S (k + 1)).length = (keepP l S k).length + 1 := by rw [HE1.out]; simp
                clear o6 g6 m6 b6 ht6 hx1
                go_wp2
                exact ⟨⟨k + 1, A6, c6, hlt, by congr 1, by rw [hle], by rw [hle]; exact HO6.out, HP6.out, HK6.out, HZ6.out⟩, by simp only [intOf, Int.toNat_natCast]; omega⟩
            | some t0 =>
              rw [ht] at htg
              have hb0 := HG.out.at_ HI.out ht
              obtain ⟨t, rfl⟩ : ∃ t : Nat, t0 = (t : Int) := ⟨t0.toNat, by omega⟩
              have htl : t < l.length := by omega
              have e1 : keepP l S (k + 1) = keepP l S k ++ [aimM i (cnt S t : Int)] := by rw [keepP_step HI.out HB.out]; unfold reM; rw [ht]; simp
              have HT := hid ht
              have HE1 := hid e1
              have i2 : (t : Int) < (l.length : Int) + 1 := by omega
              have i3 : (0 : Int) ≤ (t : Int) := by omega
              clear ht e1 hb0
              unfold insV at htg
              go_wp2_with first | (go_at_call 51; refine HC.out.mono ?_; rintro e w2 ⟨rfl, hk2⟩; have HBX2 := hid ((hk2.block _ (blk_lt HBX.out)).trans HBX.out); obtain ⟨⟨q0, q1, q2, q3, q4, q5⟩, _⟩ := boxed6 _ _ _ _ _ _ _ _ HBX2.out; have ql := blk_lt HBX2.out; have HKX := hid (HKA.out.trans hk2); clear hk2) | (go_at_call 58; refine (htg _).mono ?_; rintro e w3 ⟨rfl, hk3⟩; have HBX3 := hid ((hk3.block _ (blk_lt HBX2.out)).trans HBX2.out); obtain ⟨⟨r0, r1, r2, r3, r4, r5⟩, _⟩ := boxed6 _ _ _ _ _ _ _ _ HBX3.out; have rl := blk_lt HBX3.out; have HKY := hid (HKX.out.trans hk3); have HO3 := hid (HOR.out.kp CeIns.kp HKY.out); have HZ3 := hid (Nat.le_trans HZR2.out HKY.out.le); clear hk3)
              refine wp_region_last 6 [[], [], [], [1, 2], [3], [0, 4], [5]] (fun u => Kp w3 u)
                [fun (y : Value) (u : World) => y = (.agg #[.int .i64 i.op, .int .i64 i.a, .int .i64 i.b, .int .i64 i.c, .int .i64 i.d, .int .i64 i.e] : Value),
                 fun (y : Value) (u : World) => y = (.slice (some ⟨n0, 0, none⟩) (l.length + 1) (l.length + 1) : Value),
                 fun (y : Value) (u : World) => y = (.int .i64 (t : Int) : Value),
                 fun (y : Value) (u : World) => y = (.pointer (some ⟨n0, t, none⟩) : Value),
                 fun (y : Value) (u : World) => y = (.int .i64 (cnt S t : Int) : Value),
                 fun (y : Value) (u : World) => y = (insV (aimM i (cnt S t : Int)) : Value)]
                (by kernel_rfl) (by kernel_rfl) (by kernel_rfl) (by kernel_rfl) (by kernel_rfl) (by kernel_rfl) ((Kp.refl _).drew) (fun _ _ hk h => h.trans hk) ⟨fun _ _ _ _ h => h, fun _ _ _ _ h => h, fun _ _ _ _ h => h, fun _ _ _ _ h => h, fun _ _ _ _ h => h, fun _ _ _ _ h => h, trivial⟩ ⟨?sc0, ?sc1, ?sc2, ?sc3, ?sc4, ?sc5, trivial⟩ ⟨?hEc, trivial⟩
              case sc0 =>
                intro x u hg hd K hK
                clear hd
                have hbx := (hg.block _ (blk_lt HBX3.out)).trans HBX3.out
                obtain ⟨⟨q0, q1, q2, q3, q4, q5⟩, _⟩ := boxed6 _ _ _ _ _ _ _ _ hbx
                clear hbx
                refine ⟨?_⟩
                simp only [putsFrom, Act.put, List.setIfInBounds_toArray, List.set_cons_zero, List.set_cons_succ, Nat.reduceAdd] at hK ⊢
                go_simp
                exact hK.out _ _ (Kp.refl _) rfl
              case sc1 =>
                intro x u hg hd K hK
                clear hd
                refine ⟨?_⟩
                simp only [putsFrom, Act.put, List.setIfInBounds_toArray, List.set_cons_zero, List.set_cons_succ, Nat.reduceAdd] at hK ⊢
                go_simp
                exact hK.out _ _ (Kp.refl _) rfl
              case sc2 =>
                intro x u hg hd K hK
                clear hd
                refine ⟨?_⟩
                simp only [putsFrom, Act.put, List.setIfInBounds_toArray, List.set_cons_zero, List.set_cons_succ, Nat.reduceAdd] at hK ⊢
                go_simp
                exact hK.out _ _ (Kp.refl _) rfl
              case sc3 =>
                intro x u hg hd K hK
                have d1 : (x 1) = .slice (some ⟨n0, 0, none⟩) (l.length + 1) (l.length + 1) := And.left hd
                have d2 : (x 2) = .int .i64 (t : Int) := And.left (And.right hd)
                clear hd
                refine ⟨?_⟩
                simp only [putsFrom, Act.put, List.setIfInBounds_toArray, List.set_cons_zero, List.set_cons_succ, Nat.reduceAdd, d1, d2] at hK ⊢
                go_simp
                exact hK.out _ _ (Kp.refl _) rfl
              case sc4 =>
                intro x u hg hd K hK
                have d3 : (x 3) = .pointer (some ⟨n0, t, none⟩) := And.left hd
                clear hd
                have zp := OwnN.get (ownsRow_keep (ownsRow_keep HPR2.out HKY.out) hg) (place_at S htl)
                refine ⟨?_⟩
                simp only [putsFrom, Act.put, List.setIfInBounds_toArray, List.set_cons_zero, List.set_cons_succ, Nat.reduceAdd, d3] at hK ⊢
                go_simp
                exact hK.out _ _ (Kp.refl _) rfl
              case sc5 =>
                intro x u hg hd K hK
                have d0 : (x 0) = .agg #[.int .i64 i.op, .int .i64 i.a, .int .i64 i.b, .int .i64 i.c, .int .i64 i.d, .int .i64 i.e] := And.left hd
                have d4 : (x 4) = .int .i64 (cnt S t : Int) := And.left (And.right hd)
                clear hd
                refine ⟨?_⟩
                simp only [putsFrom, Act.put, List.setIfInBounds_toArray, List.set_cons_zero, List.set_cons_succ, Nat.reduceAdd, d0, d4] at hK ⊢
                go_simp
                go_at_call 71
                have hc := aim_any u i (cnt S t : Int)
                refine hc.mono ?_
                clear hc
                rintro e u' ⟨rfl, hk⟩
                dsimp only
                exact hK.out _ _ hk rfl
              intro x u hg he K hK
              have d0 : (x 0) = .agg #[.int .i64 i.op, .int .i64 i.a, .int .i64 i.b, .int .i64 i.c, .int .i64 i.d, .int .i64 i.e] := And.left he
              have d1 : (x 1) = .slice (some ⟨n0, 0, none⟩) (l.length + 1) (l.length + 1) := And.left (And.right he)
              have d2 : (x 2) = .int .i64 (t : Int) := And.left (And.right (And.right he))
              have d3 : (x 3) = .pointer (some ⟨n0, t, none⟩) := And.left (And.right (And.right (And.right he)))
              have d4 : (x 4) = .int .i64 (cnt S t : Int) := And.left (And.right (And.right (And.right (And.right he))))
              have d5 : (x 5) = insV (aimM i (cnt S t : Int)) := And.left (And.right (And.right (And.right (And.right (And.right he)))))
              clear he
              have HUK := hid hg
              have HBU := hid ((hg.block _ (blk_lt HBX3.out)).trans HBX3.out)
              obtain ⟨⟨z0, z1, z2, z3, z4, z5⟩, ⟨f0, f1, f2, f3, f4, f5⟩⟩ := boxed6 _ _ _ _ _ _ _ _ HBU.out
              unfold insV at d5
              refine ⟨?_⟩
              simp only [putsFrom, Act.put, List.setIfInBounds_toArray, List.set_cons_zero, List.set_cons_succ, Nat.reduceAdd, d0, d1, d2, d3, d4, d5] at hK ⊢
              go_simp
              refine hK.out undef _ ⟨?_⟩
              clear hK
              clear d0 d1 d2 d3 d4 d5
              have HBV := hid (put6_blk HBU.out (aimM i (cnt S t : Int)))
              have HKV := hid (show Kp wr (put6 u wr.heap.size 0 (aimM i (cnt S t : Int))) from Below.grown (HKY.out.trans HUK.out) (put6_grown u wr.heap.size 0 _) (HKY.out.trans HUK.out).le (fun q hq => by injection hq with hq; subst hq; exact Nat.le_refl _))
              have hw3 : put6 u wr.heap.size 0 (aimM i (cnt S t : Int)) = put6 u wr.heap.size 0 (aimM i (cnt S t : Int)) := rfl
              conv at hw3 => lhs; unfold put6
              simp only [Nat.zero_add] at hw3
              rw [hw3]
              have HJ := hid (ceIns_re (w := u) (i := i) (f := fun _ => (cnt S t : Int)) ⟨rfl, HOK.out⟩ (fun _ _ => okI_nat (Nat.le_trans (cnt_bound S t) (by omega))))
              have ej : reM (fun _ => (cnt S t : Int)) i = aimM i (cnt S t : Int) := by unfold reM; rw [HT.out]
              rw [ej] at HJ
              clear z0 z1 z2 z3 z4 z5 f0 f1 f2 f3 f4 f5 hw3 ej
              generalize put6 u wr.heap.size 0 (aimM i (cnt S t : Int)) = w4 at HBV HKV ⊢
              generalize aimM i (cnt S t : Int) = j at HBV HE1 HJ ⊢
              obtain ⟨⟨q0, q1, q2, q3, q4, q5⟩, _⟩ := boxed6 _ _ _ _ _ _ _ _ HBV.out
              have ql := blk_lt HBV.out
              have HO4 := hid (HOR.out.kp CeIns.kp HKV.out)
              have HZ4 := hid (Nat.le_trans HZR2.out HKV.out.le)
              obtain ⟨xs, hx1, hx2⟩ := HO4.out
              have HX2 := hid hx2
              clear hx2
              go_wp2_with (at_builtin; refine app_lit_at w4.heap.size ?r0 elIns ?r1 (.tmp 55) (.tmp 57) ?r2 (base := n0) hx1 ?r3 #[.int .i64 j.op, .int .i64 j.a, .int .i64 j.b, .int .i64 j.c, .int .i64 j.d, .int .i64 j.e] 64 1 1 ?r4 ?r5 ?r6 ?r7 ?r8 HZ4.out ?r9)
              case r0 => rfl
              case r1 => rfl
              case r2 => rfl
              case r3 => rfl
              case r4 => rfl
              case r5 => rfl
              case r6 => repeat' (first | exact rfl | refine ⟨?_, ?_⟩)
              case r7 => have := HKL.out; unfold maxLen; omega
              case r8 => have := HKL.out; omega
              case r9 =>
                intro v6 w6 o6 g6 m6 b6
                obtain ⟨A6, c6, rfl⟩ := own_form o6
                have ht6 := Touch.of_grown hx1 g6
                have HP6 := hid (ownsRow_touch (by decide) (ownsRow_keep HPR2.out HKV.out) ht6)
                have HK6 := hid (Below.trans (Below.trans HKR2.out (Below.mono HKV.out HZR2.out)) b6)
                have HZ6 := hid (Nat.le_trans HZ4.out b6.size)
                have HO6 : Hid (OIns w6 n0 (.slice A6 ((keepP l S k).length + 1) c6) (keepP l S (k + 1))) := hid (by rw [HE1.out]; exact OwnL.snoc rfl HX2.out (fun _ _ h => CeIns.any h) (CeIns.any (w := u) HJ.out) rfl o6)
                have hle : (keepP l S (k + 1)).length = (keepP l S k).length + 1 := by rw [HE1.out]; simp
                clear o6 g6 m6 b6 ht6 hx1
                go_wp2
                exact ⟨⟨k + 1, A6, c6, hlt, by congr 1, by rw [hle], by rw [hle]; exact HO6.out, HP6.out, HK6.out, HZ6.out⟩, by simp only [intOf, Int.toNat_natCast]; omega⟩
        · have i1 : ¬ (k : Int) < (l.length : Int) := by omega
          obtain rfl : k = l.length := by omega
          rw [keepP_all hsl] at hor ⊢
          have HOR := hid hor; have HKR2 := hid hkr
          clear hor hpr hkr hzr hlt hk
          go_wp2
          go_ret
          exact ⟨⟨_, rfl, HOR.out⟩, by show Below _ _ _; rw [hn0]; exact HKR2.out⟩
end Go.Proofs.Ytgonekmmbeedeaa.Sq
