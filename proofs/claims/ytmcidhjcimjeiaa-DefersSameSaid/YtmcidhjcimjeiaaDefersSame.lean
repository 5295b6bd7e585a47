/-
  The law DefersSame answers true for all lists of calls. No condition.
-/
import Derived.SizedLaws
import Derived.Deep.CondSized
import Derived.Test.YtmcidhjcimjeiaaRows
import Derived.Test.YtmcidhjcimjeiaaOrderT
import Derived.Test.YtmcidhjcimjeiaaRow
namespace Go.Proofs.Ytmcidhjcimjeiaa.defersSame
open Go.ChangeShapes Go.WideShapes Go.ChangeAt Go.RowKit
open Go.ChangeMaps (open_string shut_string)
set_option linter.unusedVariables false

theorem own : ownKnob Try.prog.godebug = none := by kernel_rfl
theorem laidOut : laidOutB Try.prog = true := by kernel_rfl


def lit2 : List CallM := [⟨1, 0, []⟩, ⟨2, 0, []⟩]
theorem sites2 : Sites lit2 := ⟨by decide, by decide⟩
theorem rd_lit2 (w : World) : RdCalls (w.alloc (.cells #[.int .i64 1, .int .i64 0, .slice none 0 0, .int .i64 2, .int .i64 0, .slice none 0 0] 25)) (.slice (some ⟨w.heap.size, 0, none⟩) 2 2) lit2 := by
  refine ⟨_, _, rfl, by simp [lit2], fun i a hi => ?_⟩
  have hc : ∀ j, (w.alloc (.cells #[.int .i64 1, .int .i64 0, .slice none 0 0, .int .i64 2, .int .i64 0, .slice none 0 0] 25)).cell? ⟨w.heap.size, j, none⟩ = (#[.int .i64 1, .int .i64 0, .slice none 0 0, .int .i64 2, .int .i64 0, .slice none 0 0] : Array Value)[j]? := fun j => World.cell?_alloc_new _ _ _ _
  match i, hi with
  | 0, hi =>
    simp [lit2] at hi; subst hi
    refine ⟨_, 0, [.int .i64 1, .int .i64 0, .slice none 0 0], rfl, by simp, ⟨_, rfl, by unfold okI; decide, by unfold okI; decide, RdInts.nil_ _, by decide⟩, rfl, fun j hj => ?_⟩
    rw [hc]
    match j, hj with
    | 0, _ => rfl
    | 1, _ => rfl
    | 2, _ => rfl
  | 1, hi =>
    simp [lit2] at hi; subst hi
    refine ⟨_, 0, [.int .i64 2, .int .i64 0, .slice none 0 0], rfl, by simp, ⟨_, rfl, by unfold okI; decide, by unfold okI; decide, RdInts.nil_ _, by decide⟩, rfl, fun j hj => ?_⟩
    rw [hc]
    match j, hj with
    | 0, _ => rfl
    | 1, _ => rfl
    | 2, _ => rfl
  | n + 2, hi => simp [lit2] at hi
/-- A list of calls whose place at k is turned. -/
def put (M : List CallM) (k : Nat) (x : Int) : List CallM := match M[k]? with | some m => M.set k { m with site := x } | none => M
theorem put_len (M : List CallM) (k : Nat) (x : Int) : (put M k x).length = M.length := by unfold put; split <;> simp
theorem put_at {M : List CallM} {k : Nat} (hk : k < M.length) (x : Int) : ∃ m, (put M k x)[k]? = some m ∧ m.site = x := by
  unfold put
  rw [List.getElem?_eq_getElem hk]
  exact ⟨_, List.getElem?_set_self hk, rfl⟩
theorem put_take (M : List CallM) (k : Nat) (x : Int) : (put M k x).take k = M.take k := by
  unfold put
  split
  · rw [List.take_set_of_le (Nat.le_refl _)]
  · rfl
theorem put_prev (M : List CallM) (k j : Nat) (x : Int) (h : j ≠ k) : (put M k x)[j]? = M[j]? := by
  unfold put
  split
  · rw [List.getElem?_set_ne (by omega)]
  · rfl
theorem putCalls {w : World} {base g n c k : Nat} {M : List CallM} (h : OCalls w base (.slice (some ⟨g, 0, none⟩) n c) M) (hn : n = M.length) (hk : k < M.length) {x : Int} (hx : okI x) : OCalls (w.setCell ⟨g, k * 3, none⟩ (.int .i64 x)) base (.slice (some ⟨g, 0, none⟩) n c) (put M k x) := by
  subst hn
  obtain ⟨xs, h1, h2⟩ := h
  obtain ⟨cs, fr, hb⟩ := rowBlk h1
  have ht := rowTouch (o := k * 3) hb (.int .i64 x)
  unfold put
  rw [List.getElem?_eq_getElem hk]
  have h3 := rowSet h1 (show k * 3 < M.length * 3 by omega) (.int .i64 x)
  refine ⟨xs.set (k * 3) (.int .i64 x), by rw [List.length_set]; exact h3, ?_⟩
  have h4 : Chunk (CeOC base) 3 (w.setCell ⟨g, k * 3, none⟩ (.int .i64 x)) xs M := h2.mono (fun cs a ha => ha.touch ht)
  refine Chunk.set 0 (by omega) _ h4 (List.getElem?_eq_getElem hk) (fun cs ha hl => ?_)
  obtain ⟨la, rfl, h5, h6, h7, h8, h9⟩ := ha
  exact ⟨la, rfl, h5, hx, h7, h8, h9⟩
theorem sites_snoc {M : List CallM} {k : Nat} {m : CallM} (h : Sites (M.take k)) (hm : M[k]? = some m) (h0 : 0 ≤ m.site) (h8 : m.site < 8) (hp : ∀ a, 0 < k → M[k - 1]? = some a → a.site < m.site) : Sites (M.take (k + 1)) := by
  rw [← take_snoc hm]
  have hall : ∀ a ∈ M.take k, a.site < m.site := by
    intro a ha
    have hk : 0 < k := by
      rcases Nat.eq_zero_or_pos k with e | e
      · subst e; simp at ha
      · exact e
    have hkl : k < M.length := (List.getElem?_eq_some_iff.1 hm).1
    obtain ⟨z, hz⟩ : ∃ z, M[k - 1]? = some z := ⟨_, List.getElem?_eq_getElem (by omega)⟩
    have hz2 := hp z hk hz
    have e1 : M.take k = M.take (k - 1) ++ [z] := by rw [take_snoc hz]; congr 1; omega
    rw [e1] at ha
    rcases List.mem_append.1 ha with ha | ha
    · have := h.2
      rw [e1, List.pairwise_append] at this
      have := this.2.2 a ha z (List.mem_singleton.2 rfl)
      omega
    · rw [List.mem_singleton] at ha; subst ha; exact hz2
  refine ⟨fun a ha => ?_, ?_⟩
  · rcases List.mem_append.1 ha with ha | ha
    · exact h.1 a ha
    · rw [List.mem_singleton] at ha; subst ha; exact ⟨h0, h8⟩
  · rw [List.pairwise_append]
    exact ⟨h.2, List.pairwise_singleton _ _, fun a ha b hb => by rw [List.mem_singleton] at hb; subst hb; exact hall a ha⟩
theorem okI_small {x : Int} (h0 : 0 ≤ x) (h : x ≤ 100) : okI x := by unfold okI; omega
/-- The row of calls in the midst of a round: the place at k is x, the others are as in M. -/
def St (w : World) (base g n c k : Nat) (M : List CallM) (x : Int) : Prop := ∃ M2, OCalls w base (.slice (some ⟨g, 0, none⟩) n c) M2 ∧ M2.length = n ∧ (∀ j, j ≠ k → M2[j]? = M[j]?) ∧ M2.take k = M.take k ∧ ∃ m2, M2[k]? = some m2 ∧ m2.site = x
theorem St.put {w : World} {base g n c k : Nat} {M : List CallM} {x : Int} (h : St w base g n c k M x) (hk : k < n) {y : Int} (hy : okI y) : St (w.setCell ⟨g, k * 3, none⟩ (.int .i64 y)) base g n c k M y := by
  obtain ⟨M2, h1, h2, h3, h4, _⟩ := h
  obtain ⟨m2, g1, g2⟩ := put_at (M := M2) (k := k) (by omega) y
  exact ⟨_, putCalls h1 h2.symm (by omega) hy, (put_len _ _ _).trans h2, fun j hj => (put_prev _ _ _ _ hj).trans (h3 j hj), (put_take _ _ _).trans h4, m2, g1, g2⟩
theorem calls_at {w : World} {base g n c k : Nat} {M : List CallM} {m : CallM} (h : OCalls w base (.slice (some ⟨g, 0, none⟩) n c) M) (hm : M[k]? = some m) : w.cell? ⟨g, k * 3, none⟩ = some (.int .i64 m.site) ∧ w.frozen? ⟨g, k * 3, none⟩ = false ∧ okCall m := by
  have hk := (List.getElem?_eq_some_iff.1 hm).1
  obtain ⟨xs, h1, h2⟩ := h
  have hn : n = M.length := by
    rcases h1.2 with ⟨e, _⟩ | ⟨_, _, _, e, _⟩ <;> cases e; rfl
  subst hn
  obtain ⟨cs, ⟨la, rfl, _, hok⟩, _, h4⟩ := h2.get hm
  obtain ⟨g1, g2⟩ := rowAt h1 (show k * 3 < M.length * 3 by omega)
  exact ⟨g1.trans (by have := h4 0 (by omega); simpa using this), g2, hok⟩
theorem St.drewN {w : World} {base g n c k : Nat} {M : List CallM} {x : Int} (h : St w base g n c k M x) (q : Nat) : St (w.drewN q) base g n c k M x := by
  obtain ⟨M2, h1, h2⟩ := h
  exact ⟨M2, h1.kp ((Kp.refl _).drewN q), h2⟩
theorem St.at_ {w : World} {base g n c k : Nat} {M : List CallM} {x : Int} (h : St w base g n c k M x) : w.cell? ⟨g, k * 3, none⟩ = some (.int .i64 x) ∧ w.frozen? ⟨g, k * 3, none⟩ = false := by
  obtain ⟨M2, h1, h2, h3, h4, m2, h5, rfl⟩ := h
  obtain ⟨g1, g2, _⟩ := calls_at h1 h5
  exact ⟨g1, g2⟩
theorem St.prev {w : World} {base g n c k : Nat} {M : List CallM} {x : Int} (h : St w base g n c k M x) (hk : 0 < k) {m : CallM} (hm : M[k - 1]? = some m) : w.cell? ⟨g, (k - 1) * 3, none⟩ = some (.int .i64 m.site) := by
  obtain ⟨M2, h1, h2, h3, h4, _⟩ := h
  exact (calls_at h1 ((h3 _ (by omega)).trans hm)).1
/-- What the loop's rounds keep. -/
def Lp (w : World) (base : Nat) (v : Value) (n k : Nat) (wr : World) : Prop := ∃ M : List CallM, M.length = n ∧ OCalls wr base v M ∧ Sites (M.take k) ∧ Kp w wr
theorem St.lp {w wr : World} {base g n c k : Nat} {M : List CallM} {x : Int} (h : St wr base g n c k M x) (hs : Sites (M.take k)) (h0 : 0 ≤ x) (h8 : x < 8) (hp : ∀ a, 0 < k → M[k - 1]? = some a → a.site < x) (hk : Kp w wr) : Lp w base (.slice (some ⟨g, 0, none⟩) n c) n (k + 1) wr := by
  obtain ⟨M2, h1, h2, h3, h4, m2, h5, rfl⟩ := h
  exact ⟨M2, h2, h1, sites_snoc (by rw [h4]; exact hs) h5 h0 h8 (fun a hk ha => hp a hk ((h3 _ (by omega)).symm.trans ha)), hk⟩
set_option maxRecDepth 20000 in
set_option maxHeartbeats 1000000 in
theorem walk (v0 : Value) (a0 : List CallM) (w : World) (w0 : RdCallsB w v0 a0) :
    Calls Try.prog 6 #[v0] w fun e w' => e = .returned (.bool true) ∧ Kp w w' := by
  obtain ⟨R0, b0⟩ := w0
  have R0' : RdCalls w v0 a0 := R0
  have HL := hid R0'
  have hl : (a0.length + 1) * 40 ≤ 140737488355328 := by omega
  obtain ⟨A, c, rfl, hlc⟩ := R0.form
  clear R0 R0'
  go_enter Try.func6, Try.ntmps6
  go_wp2_with fail
  have hc := calls_any _ a0 _ HL.out hl
  refine hc.mono ?_; clear hc
  rintro e w1 ⟨⟨v1, rfl, h1⟩, hk1⟩
  obtain ⟨n, hn⟩ : ∃ n, n = min a0.length 8 := ⟨_, rfl⟩
  obtain ⟨A1, c1, rfl, hc1⟩ := h1.rd.form
  have H1 : Hid (OCalls w1 w.heap.size (.slice A1 n c1) (a0.take n)) := hid (by
    obtain ⟨xs, g1, g2⟩ := h1
    refine ⟨_, by rw [List.length_take, Nat.min_eq_left (by omega)]; exact rowTake g1 (by omega), g2.take n⟩)
  have HK1 := hid hk1
  clear h1 hk1
  have n8 : n ≤ 8 := by omega
  have nl : n ≤ a0.length := by omega
  have hS0 : Sites ((a0.take n).take 0) := ⟨by simp, by simp⟩
  have HS0 := hid hS0
  clear hS0
  have hrow : ∀ Q : Prop, (a0.length ≤ 8 → n = a0.length → Q) → (8 < a0.length → n = 8 → Q) → Q := fun Q h1 h2 => by
    by_cases h : a0.length ≤ 8
    · exact h1 h (by omega)
    · exact h2 (by omega) (by omega)
  clear hn
  by_cases h8 : a0.length ≤ 8
  · have e0 : Value.slice A1 a0.length c1 = Value.slice A1 n c1 := by rw [hrow (n = a0.length) (fun _ h => h) (fun h => by omega)]
    rw [e0]
    have t1 : ¬ (8 : Int) < (n : Int) := by omega
    clear hrow e0 h8
    go_wp2
    go_loopw [4] (fun i wr => ∃ k : Nat, k ≤ n ∧ i = .int .i64 k ∧ Lp w w.heap.size (.slice A1 n c1) n k wr) (fun i _ => n - (intOf i).toNat)
    case atStart => exact ⟨0, by omega, rfl, a0.take n, by rw [List.length_take]; omega, H1.out, HS0.out, HK1.out⟩
    case round =>
      obtain ⟨k, hk, rfl, hlp⟩ := hrel
      by_cases hlt : k < n
      · obtain ⟨M, hM, ho, hs, hkp⟩ := hlp
        have HSS := hid hs; have HKP := hid hkp; have HMl := hid hM
        obtain ⟨g, c2, e, hnc⟩ : ∃ g c2, Value.slice A1 n c1 = .slice (some ⟨g, 0, none⟩) n c2 ∧ n ≤ c2 := by
          obtain ⟨xs, g1, _⟩ := ho
          rw [hM] at g1
          exact rowSome g1 (by omega)
        injection e with e1 _ e3
        subst e1; subst e3
        obtain ⟨a, ha⟩ : ∃ a, a0[k]? = some a := ⟨_, List.getElem?_eq_getElem (by omega)⟩
        obtain ⟨b, off, rfl, hb, la, q0', _, _, o0, _⟩ := at_call HL.out ha
        have q0 := cell_kp hkp hb q0'
        clear q0'
        obtain ⟨m, hm⟩ : ∃ m, M[k]? = some m := ⟨_, List.getElem?_eq_getElem (by omega)⟩
        have S0 : St wr w.heap.size g n c1 k M m.site := ⟨M, ho, hM, fun _ _ => rfl, rfl, m, hm, rfl⟩
        have hgb : w.heap.size ≤ g := by obtain ⟨xs, g1, _⟩ := ho; rw [hM] at g1; exact (rowGe g1).1
        have S1 := hid (S0.put hlt (y := (k : Int)) (okI_small (by omega) (by omega)))
        have S2 := hid (S1.out.put hlt (y := (k : Int) + 1) (okI_small (by omega) (by omega)))
        obtain ⟨p0, p1⟩ := S0.at_
        have S3 : Hid (∀ mp, 0 < k → M[k - 1]? = some mp → (wr.setCell ⟨g, k * 3, none⟩ (.int .i64 (k : Int))).cell? ⟨g, (k - 1) * 3, none⟩ = some (.int .i64 mp.site)) := hid fun mp h h' => S1.out.prev h h'
        have i0 : (k : Int) < (n : Int) := by omega
        have i1 : (k : Int) < (a0.length : Int) := by omega
        have k8 : (k : Int) < 8 := by omega
        clear S0 ha hM ho hs hkp hm
        by_cases h0 : 0 < k
        · obtain ⟨mp, hmp⟩ : ∃ mp, M[k - 1]? = some mp := ⟨_, List.getElem?_eq_getElem (by have := HMl.out; omega)⟩
          have hpo := S3.out mp h0 hmp
          have HMP := hid hmp
          obtain ⟨y, hy⟩ : ∃ y, mp.site = y := ⟨_, rfl⟩
          have hyb : 0 ≤ y ∧ y < 8 := by
            rw [← hy]
            refine HSS.out.1 mp (List.mem_of_getElem? (i := k - 1) ?_)
            rw [List.getElem?_take, if_pos (by omega)]; exact hmp
          rw [hy] at hpo
          have HY := hid hy
          obtain ⟨y0, y7⟩ := hyb
          have S4 := hid (fun (W : World) (x : Int) (h : St W w.heap.size g n c1 k M x) => h.put hlt (y := y + 1) (okI_small (by omega) (by omega)))
          have w1 : IntKind.i64.wrap ((k : Int) - 1) = (k : Int) - 1 := IntWalk.i64_in _ (by omega)
          have w2 : ((k : Int) - 1).toNat = k - 1 := by omega
          have w3 : (0 : Int) ≤ (k : Int) - 1 := by omega
          have w4 : (k : Int) - 1 < (n : Int) := by omega
          have d0 : decide (0 < k) = true := by simp [h0]
          clear hmp hy
          by_cases hc : (a.site.tmod 2 == 0) = true ∧ n < 8
          · obtain ⟨h1, h2⟩ := hc
            have h2' : (n : Int) < 8 := by omega
            go_wp2
            have HW := S2
            have HK2 := hid ((HKP.out.setCell hgb _).setCell hgb _ : Kp w ((wr.setCell ⟨g, k * 3, none⟩ (.int .i64 (k : Int))).setCell ⟨g, k * 3, none⟩ (.int .i64 ((k : Int) + 1))))
            obtain ⟨p1, f1⟩ := HW.out.at_
            have p2 := HW.out.prev h0 HMP.out
            rw [HY.out] at p2
            generalize ((wr.setCell ⟨g, k * 3, none⟩ (.int .i64 (k : Int))).setCell ⟨g, k * 3, none⟩ (.int .i64 ((k : Int) + 1))) = W2 at HW HK2 p1 f1 p2 ⊢
            have x1b : (0 : Int) ≤ ((k : Int) + 1) := by omega
            by_cases hle : ((k : Int) + 1) ≤ y
            · have d1 : decide (((k : Int) + 1) ≤ y) = true := by simp; omega
              go_quiet (fail)
              have HW3 := hid (S4.out _ _ (HW.out.drewN nq))
              have d2 : 0 ≤ y + 1 := by omega
              clear HW
              have HKS := hid ((HK2.out.drewN nq).setCell (p := ⟨g, k * 3, none⟩) hgb (.int .i64 (y + 1)))
              obtain ⟨p3, f3⟩ := HW3.out.at_
              by_cases h8 : 8 ≤ y + 1
              · go_wp2
                go_ret
                exact ⟨rfl, HKS.out⟩
              · go_wp2
                go_roundw
                case rel => exact ⟨k + 1, hlt, by simp, St.lp HW3.out HSS.out (by omega) (by omega) (fun a hk ha => by have e := Option.some.inj (HMP.out.symm.trans ha); have := HY.out; subst e; omega) HKS.out⟩
                case measure => simp [intOf]; omega
            · have d1 : decide (((k : Int) + 1) ≤ y) = false := by simp; omega
              go_quiet (fail)
              by_cases h8 : 8 ≤ ((k : Int) + 1)
              · exfalso; omega
              · go_wp2
                go_roundw
                case rel => exact ⟨k + 1, hlt, by simp, St.lp (HW.out.drewN nq) HSS.out (by omega) (by omega) (fun a hk ha => by have e := Option.some.inj (HMP.out.symm.trans ha); have := HY.out; subst e; omega) (HK2.out.drewN nq)⟩
                case measure => simp [intOf]; omega
          · have hcc : (a.site.tmod 2 == 0) = false ∨ ((a.site.tmod 2 == 0) = true ∧ ¬ (n : Int) < 8) := by
              by_cases h1 : (a.site.tmod 2 == 0) = true
              · exact .inr ⟨h1, fun h => hc ⟨h1, by omega⟩⟩
              · exact .inl (by simpa using h1)
            have S5 := hid (S1.out)
            clear hc
            rcases hcc with h1 | ⟨h1, h2⟩
            all_goals
              go_wp2
              have HW := S5
              have HK2 := hid (HKP.out.setCell hgb _ : Kp w (wr.setCell ⟨g, k * 3, none⟩ (.int .i64 (k : Int))))
              obtain ⟨p1, f1⟩ := HW.out.at_
              have p2 := HW.out.prev h0 HMP.out
              rw [HY.out] at p2
              generalize (wr.setCell ⟨g, k * 3, none⟩ (.int .i64 (k : Int))) = W2 at HW HK2 p1 f1 p2 ⊢
              have x1b : (0 : Int) ≤ (k : Int) := by omega
              by_cases hle : (k : Int) ≤ y
              · have d1 : decide ((k : Int) ≤ y) = true := by simp; omega
                go_quiet (fail)
                have HW3 := hid (S4.out _ _ (HW.out.drewN nq))
                have d2 : 0 ≤ y + 1 := by omega
                clear HW
                have HKS := hid ((HK2.out.drewN nq).setCell (p := ⟨g, k * 3, none⟩) hgb (.int .i64 (y + 1)))
                obtain ⟨p3, f3⟩ := HW3.out.at_
                by_cases h8 : 8 ≤ y + 1
                · go_wp2
                  go_ret
                  exact ⟨rfl, HKS.out⟩
                · go_wp2
                  go_roundw
                  case rel => exact ⟨k + 1, hlt, by simp, St.lp HW3.out HSS.out (by omega) (by omega) (fun a hk ha => by have e := Option.some.inj (HMP.out.symm.trans ha); have := HY.out; subst e; omega) HKS.out⟩
                  case measure => simp [intOf]; omega
              · have d1 : decide ((k : Int) ≤ y) = false := by simp; omega
                go_quiet (fail)
                by_cases h8 : 8 ≤ (k : Int)
                · exfalso; omega
                · go_wp2
                  go_roundw
                  case rel => exact ⟨k + 1, hlt, by simp, St.lp (HW.out.drewN nq) HSS.out (by omega) (by omega) (fun a hk ha => by have e := Option.some.inj (HMP.out.symm.trans ha); have := HY.out; subst e; omega) (HK2.out.drewN nq)⟩
                  case measure => simp [intOf]; omega
        · have e0 : k = 0 := by omega
          have d0 : decide (0 < k) = false := by simp [e0]
          have t8 : decide (8 ≤ k) = false := by simp; omega
          have HE := hid e0
          clear e0
          go_wp2
          go_quiet (fail)
          go_wp2
          go_roundw
          case rel => exact ⟨k + 1, hlt, by simp, St.lp (St.drewN S1.out nq) HSS.out (by omega) (by omega) (fun a hk => by have := HE.out; omega) ((HKP.out.setCell hgb _).drewN _)⟩
          case measure => simp [intOf]; omega
      · obtain rfl : k = n := by omega
        obtain ⟨M, hM, ho, hs, hkp⟩ := hlp
        rw [List.take_of_length_le (by omega)] at hs
        have hml : (M.length + 1) * 40 ≤ 140737488355328 := by omega
        have hml2 : (M.reverse.length + 1) * 40 ≤ 140737488355328 := by rw [List.length_reverse]; exact hml
        have HMM := hid ho.rd; have HSM := hid hs; have HKP := hid hkp
        have HMl := hid hM
        have i0 : ¬ (k : Int) < (k : Int) := by omega
        clear ho hs hkp hM hk hlt n8 nl t1 H1 HS0
        go_wp2_with fail
        have hc := calls_any _ M _ HMM.out hml
        refine hc.mono ?_; clear hc
        rintro e u1 ⟨⟨x1, rfl, h1⟩, hj1⟩
        have K1 := hid (HKP.out.trans hj1); have M1 := hid (HMM.out.kp hj1)
        have hr1 := hid h1.rd
        clear hj1 h1
        go_wp2_with fail
        have hc := order_bits _ M _ hr1.out HSM.out hml
        refine hc.mono ?_; clear hc
        rintro e u2 ⟨⟨x2, rfl, h2⟩, hj2⟩
        have K2 := hid (K1.out.trans hj2); have M2 := hid (M1.out.kp hj2)
        have hr2 := hid h2.rd
        clear hj2 h2
        go_wp2_with fail
        have hc := calls_any _ M _ M2.out hml
        refine hc.mono ?_; clear hc
        rintro e u3 ⟨⟨x3, rfl, h3⟩, hj3⟩
        have K3 := hid (K2.out.trans hj3); have hr2' := hid (hr2.out.kp hj3)
        have hr3 := hid h3.rd
        clear hj3 h3
        go_wp2_with fail
        have hc := order_recs _ M _ hr3.out hml
        refine hc.mono ?_; clear hc
        rintro e u4 ⟨⟨x4, rfl, h4⟩, hj4⟩
        have K4 := hid (K3.out.trans hj4); have hr2'' := hid (hr2'.out.kp hj4)
        have hr4 := hid h4.rd
        clear hj4 h4
        go_wp2_with fail
        have hc := order_bits _ lit2 _ (rd_lit2 u4) sites2 (by decide)
        refine hc.mono ?_; clear hc
        rintro e u5 ⟨⟨x5, rfl, h5⟩, hj5⟩
        obtain ⟨A5, c5, rfl, _⟩ := h5.rd.form
        have hl5 : lit2.reverse.length = 2 := rfl
        rw [hl5]
        have K5 := hid ((K4.out.alloc (.cells #[.int .i64 1, .int .i64 0, .slice none 0 0, .int .i64 2, .int .i64 0, .slice none 0 0] 25)).trans hj5)
        have G1 := hid (hr2''.out.kp (((Kp.refl _).alloc (.cells #[.int .i64 1, .int .i64 0, .slice none 0 0, .int .i64 2, .int .i64 0, .slice none 0 0] 25)).trans hj5))
        have G2 := hid (hr4.out.kp (((Kp.refl _).alloc (.cells #[.int .i64 1, .int .i64 0, .slice none 0 0, .int .i64 2, .int .i64 0, .slice none 0 0] 25)).trans hj5))
        clear hj5 h5 hl5
        go_wp2_with (go_at_call 18; go_must (refine (sameCalls_eq _ _ M.reverse _ G1.out G2.out (by rw [List.length_reverse]; omega)).mono ?_); rintro e u6 ⟨rfl, hk6⟩)
        go_ret
        exact ⟨rfl, K5.out.trans hk6⟩
  · have e0 := hid (show Value.slice A1 8 c1 = Value.slice A1 n c1 by rw [hrow (n = 8) (fun h => by omega) (fun _ h => h)])
    have t1 : (8 : Int) < (a0.length : Int) := by omega
    have t2 : 8 ≤ c1 := by omega
    clear hrow
    go_wp2
    rw [e0.out]
    clear e0 t2 h8
    go_loopw [4] (fun i wr => ∃ k : Nat, k ≤ n ∧ i = .int .i64 k ∧ Lp w w.heap.size (.slice A1 n c1) n k wr) (fun i _ => n - (intOf i).toNat)
    case atStart => exact ⟨0, by omega, rfl, a0.take n, by rw [List.length_take]; omega, H1.out, HS0.out, HK1.out⟩
    case round =>
      obtain ⟨k, hk, rfl, hlp⟩ := hrel
      by_cases hlt : k < n
      · obtain ⟨M, hM, ho, hs, hkp⟩ := hlp
        have HSS := hid hs; have HKP := hid hkp; have HMl := hid hM
        obtain ⟨g, c2, e, hnc⟩ : ∃ g c2, Value.slice A1 n c1 = .slice (some ⟨g, 0, none⟩) n c2 ∧ n ≤ c2 := by
          obtain ⟨xs, g1, _⟩ := ho
          rw [hM] at g1
          exact rowSome g1 (by omega)
        injection e with e1 _ e3
        subst e1; subst e3
        obtain ⟨a, ha⟩ : ∃ a, a0[k]? = some a := ⟨_, List.getElem?_eq_getElem (by omega)⟩
        obtain ⟨b, off, rfl, hb, la, q0', _, _, o0, _⟩ := at_call HL.out ha
        have q0 := cell_kp hkp hb q0'
        clear q0'
        obtain ⟨m, hm⟩ : ∃ m, M[k]? = some m := ⟨_, List.getElem?_eq_getElem (by omega)⟩
        have S0 : St wr w.heap.size g n c1 k M m.site := ⟨M, ho, hM, fun _ _ => rfl, rfl, m, hm, rfl⟩
        have hgb : w.heap.size ≤ g := by obtain ⟨xs, g1, _⟩ := ho; rw [hM] at g1; exact (rowGe g1).1
        have S1 := hid (S0.put hlt (y := (k : Int)) (okI_small (by omega) (by omega)))
        have S2 := hid (S1.out.put hlt (y := (k : Int) + 1) (okI_small (by omega) (by omega)))
        obtain ⟨p0, p1⟩ := S0.at_
        have S3 : Hid (∀ mp, 0 < k → M[k - 1]? = some mp → (wr.setCell ⟨g, k * 3, none⟩ (.int .i64 (k : Int))).cell? ⟨g, (k - 1) * 3, none⟩ = some (.int .i64 mp.site)) := hid fun mp h h' => S1.out.prev h h'
        have i0 : (k : Int) < (n : Int) := by omega
        have i1 : (k : Int) < (a0.length : Int) := by omega
        have k8 : (k : Int) < 8 := by omega
        clear S0 ha hM ho hs hkp hm
        by_cases h0 : 0 < k
        · obtain ⟨mp, hmp⟩ : ∃ mp, M[k - 1]? = some mp := ⟨_, List.getElem?_eq_getElem (by have := HMl.out; omega)⟩
          have hpo := S3.out mp h0 hmp
          have HMP := hid hmp
          obtain ⟨y, hy⟩ : ∃ y, mp.site = y := ⟨_, rfl⟩
          have hyb : 0 ≤ y ∧ y < 8 := by
            rw [← hy]
            refine HSS.out.1 mp (List.mem_of_getElem? (i := k - 1) ?_)
            rw [List.getElem?_take, if_pos (by omega)]; exact hmp
          rw [hy] at hpo
          have HY := hid hy
          obtain ⟨y0, y7⟩ := hyb
          have S4 := hid (fun (W : World) (x : Int) (h : St W w.heap.size g n c1 k M x) => h.put hlt (y := y + 1) (okI_small (by omega) (by omega)))
          have w1 : IntKind.i64.wrap ((k : Int) - 1) = (k : Int) - 1 := IntWalk.i64_in _ (by omega)
          have w2 : ((k : Int) - 1).toNat = k - 1 := by omega
          have w3 : (0 : Int) ≤ (k : Int) - 1 := by omega
          have w4 : (k : Int) - 1 < (n : Int) := by omega
          have d0 : decide (0 < k) = true := by simp [h0]
          clear hmp hy
          by_cases hc : (a.site.tmod 2 == 0) = true ∧ n < 8
          · obtain ⟨h1, h2⟩ := hc
            have h2' : (n : Int) < 8 := by omega
            go_wp2
            have HW := S2
            have HK2 := hid ((HKP.out.setCell hgb _).setCell hgb _ : Kp w ((wr.setCell ⟨g, k * 3, none⟩ (.int .i64 (k : Int))).setCell ⟨g, k * 3, none⟩ (.int .i64 ((k : Int) + 1))))
            obtain ⟨p1, f1⟩ := HW.out.at_
            have p2 := HW.out.prev h0 HMP.out
            rw [HY.out] at p2
            generalize ((wr.setCell ⟨g, k * 3, none⟩ (.int .i64 (k : Int))).setCell ⟨g, k * 3, none⟩ (.int .i64 ((k : Int) + 1))) = W2 at HW HK2 p1 f1 p2 ⊢
            have x1b : (0 : Int) ≤ ((k : Int) + 1) := by omega
            by_cases hle : ((k : Int) + 1) ≤ y
            · have d1 : decide (((k : Int) + 1) ≤ y) = true := by simp; omega
              go_quiet (fail)
              have HW3 := hid (S4.out _ _ (HW.out.drewN nq))
              have d2 : 0 ≤ y + 1 := by omega
              clear HW
              have HKS := hid ((HK2.out.drewN nq).setCell (p := ⟨g, k * 3, none⟩) hgb (.int .i64 (y + 1)))
              obtain ⟨p3, f3⟩ := HW3.out.at_
              by_cases h8 : 8 ≤ y + 1
              · go_wp2
                go_ret
                exact ⟨rfl, HKS.out⟩
              · go_wp2
                go_roundw
                case rel => exact ⟨k + 1, hlt, by simp, St.lp HW3.out HSS.out (by omega) (by omega) (fun a hk ha => by have e := Option.some.inj (HMP.out.symm.trans ha); have := HY.out; subst e; omega) HKS.out⟩
                case measure => simp [intOf]; omega
            · have d1 : decide (((k : Int) + 1) ≤ y) = false := by simp; omega
              go_quiet (fail)
              by_cases h8 : 8 ≤ ((k : Int) + 1)
              · exfalso; omega
              · go_wp2
                go_roundw
                case rel => exact ⟨k + 1, hlt, by simp, St.lp (HW.out.drewN nq) HSS.out (by omega) (by omega) (fun a hk ha => by have e := Option.some.inj (HMP.out.symm.trans ha); have := HY.out; subst e; omega) (HK2.out.drewN nq)⟩
                case measure => simp [intOf]; omega
          · have hcc : (a.site.tmod 2 == 0) = false ∨ ((a.site.tmod 2 == 0) = true ∧ ¬ (n : Int) < 8) := by
              by_cases h1 : (a.site.tmod 2 == 0) = true
              · exact .inr ⟨h1, fun h => hc ⟨h1, by omega⟩⟩
              · exact .inl (by simpa using h1)
            have S5 := hid (S1.out)
            clear hc
            rcases hcc with h1 | ⟨h1, h2⟩
            all_goals
              go_wp2
              have HW := S5
              have HK2 := hid (HKP.out.setCell hgb _ : Kp w (wr.setCell ⟨g, k * 3, none⟩ (.int .i64 (k : Int))))
              obtain ⟨p1, f1⟩ := HW.out.at_
              have p2 := HW.out.prev h0 HMP.out
              rw [HY.out] at p2
              generalize (wr.setCell ⟨g, k * 3, none⟩ (.int .i64 (k : Int))) = W2 at HW HK2 p1 f1 p2 ⊢
              have x1b : (0 : Int) ≤ (k : Int) := by omega
              by_cases hle : (k : Int) ≤ y
              · have d1 : decide ((k : Int) ≤ y) = true := by simp; omega
                go_quiet (fail)
                have HW3 := hid (S4.out _ _ (HW.out.drewN nq))
                have d2 : 0 ≤ y + 1 := by omega
                clear HW
                have HKS := hid ((HK2.out.drewN nq).setCell (p := ⟨g, k * 3, none⟩) hgb (.int .i64 (y + 1)))
                obtain ⟨p3, f3⟩ := HW3.out.at_
                by_cases h8 : 8 ≤ y + 1
                · go_wp2
                  go_ret
                  exact ⟨rfl, HKS.out⟩
                · go_wp2
                  go_roundw
                  case rel => exact ⟨k + 1, hlt, by simp, St.lp HW3.out HSS.out (by omega) (by omega) (fun a hk ha => by have e := Option.some.inj (HMP.out.symm.trans ha); have := HY.out; subst e; omega) HKS.out⟩
                  case measure => simp [intOf]; omega
              · have d1 : decide ((k : Int) ≤ y) = false := by simp; omega
                go_quiet (fail)
                by_cases h8 : 8 ≤ (k : Int)
                · exfalso; omega
                · go_wp2
                  go_roundw
                  case rel => exact ⟨k + 1, hlt, by simp, St.lp (HW.out.drewN nq) HSS.out (by omega) (by omega) (fun a hk ha => by have e := Option.some.inj (HMP.out.symm.trans ha); have := HY.out; subst e; omega) (HK2.out.drewN nq)⟩
                  case measure => simp [intOf]; omega
        · have e0 : k = 0 := by omega
          have d0 : decide (0 < k) = false := by simp [e0]
          have t8 : decide (8 ≤ k) = false := by simp; omega
          have HE := hid e0
          clear e0
          go_wp2
          go_quiet (fail)
          go_wp2
          go_roundw
          case rel => exact ⟨k + 1, hlt, by simp, St.lp (St.drewN S1.out nq) HSS.out (by omega) (by omega) (fun a hk => by have := HE.out; omega) ((HKP.out.setCell hgb _).drewN _)⟩
          case measure => simp [intOf]; omega
      · obtain rfl : k = n := by omega
        obtain ⟨M, hM, ho, hs, hkp⟩ := hlp
        rw [List.take_of_length_le (by omega)] at hs
        have hml : (M.length + 1) * 40 ≤ 140737488355328 := by omega
        have hml2 : (M.reverse.length + 1) * 40 ≤ 140737488355328 := by rw [List.length_reverse]; exact hml
        have HMM := hid ho.rd; have HSM := hid hs; have HKP := hid hkp
        have HMl := hid hM
        have i0 : ¬ (k : Int) < (k : Int) := by omega
        clear ho hs hkp hM hk hlt n8 nl t1 H1 HS0
        go_wp2_with fail
        have hc := calls_any _ M _ HMM.out hml
        refine hc.mono ?_; clear hc
        rintro e u1 ⟨⟨x1, rfl, h1⟩, hj1⟩
        have K1 := hid (HKP.out.trans hj1); have M1 := hid (HMM.out.kp hj1)
        have hr1 := hid h1.rd
        clear hj1 h1
        go_wp2_with fail
        have hc := order_bits _ M _ hr1.out HSM.out hml
        refine hc.mono ?_; clear hc
        rintro e u2 ⟨⟨x2, rfl, h2⟩, hj2⟩
        have K2 := hid (K1.out.trans hj2); have M2 := hid (M1.out.kp hj2)
        have hr2 := hid h2.rd
        clear hj2 h2
        go_wp2_with fail
        have hc := calls_any _ M _ M2.out hml
        refine hc.mono ?_; clear hc
        rintro e u3 ⟨⟨x3, rfl, h3⟩, hj3⟩
        have K3 := hid (K2.out.trans hj3); have hr2' := hid (hr2.out.kp hj3)
        have hr3 := hid h3.rd
        clear hj3 h3
        go_wp2_with fail
        have hc := order_recs _ M _ hr3.out hml
        refine hc.mono ?_; clear hc
        rintro e u4 ⟨⟨x4, rfl, h4⟩, hj4⟩
        have K4 := hid (K3.out.trans hj4); have hr2'' := hid (hr2'.out.kp hj4)
        have hr4 := hid h4.rd
        clear hj4 h4
        go_wp2_with fail
        have hc := order_bits _ lit2 _ (rd_lit2 u4) sites2 (by decide)
        refine hc.mono ?_; clear hc
        rintro e u5 ⟨⟨x5, rfl, h5⟩, hj5⟩
        obtain ⟨A5, c5, rfl, _⟩ := h5.rd.form
        have hl5 : lit2.reverse.length = 2 := rfl
        rw [hl5]
        have K5 := hid ((K4.out.alloc (.cells #[.int .i64 1, .int .i64 0, .slice none 0 0, .int .i64 2, .int .i64 0, .slice none 0 0] 25)).trans hj5)
        have G1 := hid (hr2''.out.kp (((Kp.refl _).alloc (.cells #[.int .i64 1, .int .i64 0, .slice none 0 0, .int .i64 2, .int .i64 0, .slice none 0 0] 25)).trans hj5))
        have G2 := hid (hr4.out.kp (((Kp.refl _).alloc (.cells #[.int .i64 1, .int .i64 0, .slice none 0 0, .int .i64 2, .int .i64 0, .slice none 0 0] 25)).trans hj5))
        clear hj5 h5 hl5
        go_wp2_with (go_at_call 18; go_must (refine (sameCalls_eq _ _ M.reverse _ G1.out G2.out (by rw [List.length_reverse]; omega)).mono ?_); rintro e u6 ⟨rfl, hk6⟩)
        go_ret
        exact ⟨rfl, K5.out.trans hk6⟩

/-! ### The row's step (the guide's frame, written by program) -/
set_option maxRecDepth 100000 in
theorem lifted (os : Os) (started : os.Started) (H : Type) (enc : TypeId × Value → H) :
    ReturnsInHanded {} Try.checked os 6 .any (Rows.defersSameSpec.pre6 enc Try.prog Try.f6 Rows.defersSameRow.domain false) (Rows.defersSameSpec.post enc Try.prog Try.f6 false true false false) := by
  refine returnsInHanded_of_change_sized (C := Try.checked) own started (by kernel_rfl) Try.func6
    (ChangeSpec.witness6 (enc := enc) (C := Try.checked) false ⟨#[], #[.slice none 0 0], []⟩ 8 (by kernel_rfl) (by kernel_rfl) (by kernel_rfl) (by kernel_rfl)) ?_
  intro W base args ds gs before hval0 hW _ hsz0 _
  have hsz : (DataW.weightsEach Try.prog (Try.f6.params.toList ++ Rows.defersSameSpec.plain.varTypes Try.prog) (ds ++ gs)).all (· ≤ reachBytes) = true := hsz0
  clear hsz0
  have hval : ∀ (j : Nat) t v, Try.f6.params[j]? = some t → args[j]? = some v → Value.okWide Try.prog W .any base t v := hval0
  have hW' := hW
  obtain ⟨p, q, hA0, hV, rfl, hfz, hnd⟩ := hW
  have hA : DataW.TrodAll enc Try.prog W 0 (fun _ => true) true Try.f6.params.toList args.toList ds p := hA0
  rw [Try.params6] at hA hval hsz
  obtain ⟨v0, vs0, d0, ds0, p0, q0, hargs, rfl, rfl, h0, r0⟩ := trodAll_cons hA
  obtain ⟨rfl, rfl, rfl⟩ := trodAll_nil r0
  obtain rfl : args = #[v0] := by cases args; simp_all
  obtain ⟨rfl, rfl⟩ := trodVars_none hV
  have k0 := h0
  have lt0 : ∀ x ∈ p0, x.block < W.heap.size := by obtain ⟨m, hm⟩ := k0; exact DataW.trod_lt m _ _ _ hm
  have hz0 : ∀ n ∈ DataW.weights Try.prog 22 d0, n ≤ reachBytes := fun n hn => by
    have := List.all_eq_true.1 hsz _ (DataW.weights_mem_each (j := 0) rfl rfl n hn)
    simpa using this
  obtain ⟨a0, w0⟩ := open_calls (hval 0 22 v0 rfl rfl) h0 hz0
  clear hA0 hval0
  simp only [List.append_nil] at hW'
  refine (walk v0 a0 W w0).mono fun e W' ⟨he, bel⟩ => ?_
  subst he
  exact ⟨_, rfl, _, _, _, [], _, [], hW', trodAll_mk1 (shut_bool Try.underlying4 _), (trodAll_cons_mk (Below.trod laidOut (by kernel_rfl) (of_decide_eq_true (by kernel_rfl)) k0 bel lt0) trodAll_mk0), rfl, Below.frame bel _, fun h => by cases h⟩

theorem over : Rows.defersSameRow.holds Try.pinned (OpenSpec.ofChange Rows.defersSameSpec) :=
  OpenClaim.holds_of_wide 6 Try.f6 rfl rfl rfl rfl rfl rfl rfl ⟨rfl, rfl, rfl, rfl, rfl⟩ rfl rfl rfl rfl rfl (by kernel_rfl) Try.func6 (by kernel_rfl)
    (of_decide_eq_true (by kernel_rfl)) (by unfold Func.isWrapper; rw [if_neg (of_decide_eq_false (by kernel_rfl))]; exact ⟨rfl, rfl⟩)
    (fun os started H enc _ => lifted os started H enc)

/-- THE STATEMENT. -/
theorem proved : Rows.DefersSameSaid := over
#print axioms proved

end Go.Proofs.Ytmcidhjcimjeiaa.defersSame
