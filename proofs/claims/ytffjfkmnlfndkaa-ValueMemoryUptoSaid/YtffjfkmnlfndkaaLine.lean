/-
  value.Line; lists of values. Condition: the bulk of what comes in is at most 1048576.
-/
import Derived.Test.YtffjfkmnlfndkaaShow
import Derived.Test.YtffjfkmnlfndkaaBulk
import Derived.Test.YtffjfkmnlfndkaaOwnL
import Derived.Test.YtffjfkmnlfndkaaHeld
namespace Go.Proofs.Ytffjfkmnlfndkaa
open Go.RowKit
set_option linter.unusedVariables false

theorem at_val {w : World} {A : Option Addr} {n c : Nat} {l : List ValM} {i : Nat} {m : ValM} (h : RdL CeVal 4 w (.slice A n c) l) (hi : l[i]? = some m) : ∃ b off, A = some ⟨b, off, none⟩ ∧ b < w.heap.size ∧ ∃ lv, w.cell? ⟨b, off + i * 4, none⟩ = some (.int .i64 m.k) ∧ w.cell? ⟨b, off + i * 4 + 1, none⟩ = some (.int .i64 m.n) ∧ w.cell? ⟨b, off + i * 4 + 2, none⟩ = some (.string m.s) ∧ w.cell? ⟨b, off + i * 4 + 3, none⟩ = some lv ∧ RdVal w (.agg #[.int .i64 m.k, .int .i64 m.n, .string m.s, lv]) m := by
  obtain ⟨b, off, cs, g1, g2, g3, _, g4⟩ := h.at_ hi
  obtain ⟨lv, rfl, h0⟩ := g3
  exact ⟨b, off, g1, g2, lv, g4 0 (by omega), g4 1 (by omega), g4 2 (by omega), g4 3 (by omega), lv, rfl, h0⟩
theorem RdVal.form {w : World} {k n : Int} {s : ByteArray} {lv : Value} {m : ValM} (h : RdVal w (.agg #[.int .i64 k, .int .i64 n, .string s, lv]) m) : ∃ A c, lv = .slice A m.l.length c := by
  obtain ⟨lv', e, hl, _⟩ := h
  obtain ⟨A, c, e2⟩ := hl.form
  simp at e
  exact ⟨A, c, by rw [e.2.2.2, e2]⟩
def shL (m : ValM) : List UInt8 := (showM m).data.toList
theorem shL_str (m : ValM) : (⟨(shL m).toArray⟩ : ByteArray) = showM m := by unfold shL; rfl
theorem sh_size (m : ValM) : (showM m).size = (shL m).length := by unfold shL; rw [Array.length_toList]; rfl
theorem sh_len (m : ValM) (hk : okI m.n) (hl : ∀ x ∈ m.l, okI x) : (shL m).length ≤ 24 * (bkVal m + 1) := by
  unfold shL showM bkVal
  have h21 : (nText m.n).data.toList.length ≤ 21 := Lib.itoa_length_le m.n hk.1 hk.2
  split
  · omega
  split
  · split <;> simp <;> omega
  split
  · rw [Array.length_toList]; show m.s.size ≤ _; omega
  split
  · simp; omega
  split
  · show (listText m.l).length ≤ _
    unfold listText
    have := join_len [32] 21 _ (itoa_21 hl)
    simp only [List.length_map, List.length_cons, List.length_nil, List.length_append] at this ⊢
    omega
  split
  · simp; omega
  split
  · simp; omega
  · simp
def jn (l : List ValM) : List UInt8 := Lib.join (l.map shL) [32]
theorem jn_nil : jn [] = [] := by simp [jn, Lib.join_nil]
theorem jt_snoc (sep x : List UInt8) : ∀ r : List (List UInt8), Lib.joinTail sep (r ++ [x]) = Lib.joinTail sep r ++ (sep ++ x) := by
  intro r; simp [Lib.joinTail]
theorem jn_one (m : ValM) : jn [m] = shL m := by simp [jn, Lib.join_cons, Lib.joinTail]
theorem jn_snoc (l : List ValM) (m : ValM) (h : l ≠ []) : jn (l ++ [m]) = jn l ++ [32] ++ shL m := by
  cases l with
  | nil => exact absurd rfl h
  | cons x r =>
    unfold jn
    rw [List.cons_append, List.map_cons, List.map_append, List.map_cons, List.map_nil, List.map_cons, Lib.join_cons, Lib.join_cons, jt_snoc]
    simp
theorem jn_len : ∀ (l : List ValM), (∀ m ∈ l, okI m.n ∧ ∀ x ∈ m.l, okI x) → (jn l).length ≤ 25 * (l.map fun m => bkVal m + 1).sum := by
  intro l h
  cases l with
  | nil => simp [jn_nil]
  | cons x r =>
    unfold jn
    rw [List.map_cons, Lib.join_cons]
    have hx := sh_len x (h x (List.mem_cons_self ..)).1 (h x (List.mem_cons_self ..)).2
    have ht : ∀ r : List ValM, (∀ m ∈ r, okI m.n ∧ ∀ x ∈ m.l, okI x) → (Lib.joinTail [32] (r.map shL)).length ≤ 25 * (r.map fun m => bkVal m + 1).sum := by
      intro r
      induction r with
      | nil => intro _; simp [Lib.joinTail]
      | cons y r ih =>
        intro hr
        have h1 := ih fun m hm => hr m (List.mem_cons_of_mem _ hm)
        have h2 := sh_len y (hr y (List.mem_cons_self ..)).1 (hr y (List.mem_cons_self ..)).2
        simp only [Lib.joinTail, List.map_cons, List.flatten_cons, List.length_append, List.length_cons, List.length_nil, List.sum_cons] at h1 ⊢
        omega
    have h1 := ht r fun m hm => h m (List.mem_cons_of_mem _ hm)
    simp only [List.length_append, List.map_cons, List.sum_cons]
    omega
/-- What is known of a list's values. -/
theorem vals_ok {w : World} {v : Value} {l : List ValM} (h : RdL CeVal 4 w v l) : ∀ m ∈ l, okI m.n ∧ ∀ x ∈ m.l, okI x := by
  intro m hm
  obtain ⟨i, hi⟩ := List.mem_iff_getElem?.1 hm
  obtain ⟨A, c, rfl, _⟩ := h.form
  obtain ⟨_, _, _, _, _, _, _, _, _, lv, _, h0, _, h2, _⟩ := at_val h hi
  exact ⟨h2, h0.2.1⟩
set_option maxRecDepth 20000 in
set_option maxHeartbeats 1000000 in
theorem line_any (v : Value) (l : List ValM) (w : World) (h : RdL CeVal 4 w v l) (hb : (l.map fun m => bkVal m + 1).sum ≤ 1048576) : Calls Try.prog 35 #[v] w fun e w' => e = .returned (.string ⟨(jn l ++ [10]).toArray⟩) ∧ Kp w w' := by
  have HL := hid h
  have HOK := hid (vals_ok h)
  have hlen := sum_len bkVal l
  have HB := hid hb
  have hll : l.length ≤ 1048576 := by omega
  obtain ⟨A, c, rfl, hc⟩ := h.form
  clear h hb hlen
  go_enter Try.func35, Try.ntmps35
  go_wp2
  go_loopw [3, 8] (fun s i wr => ∃ k : Nat, k ≤ l.length ∧ i = .int .i64 k ∧ OwnS wr w.heap.size s ((l.take k).map showM) ∧ Kp w wr) (fun _ i _ => l.length - (intOf i).toNat)
  case atStart => exact ⟨0, by omega, rfl, OwnS.nil _ _, Kp.refl _⟩
  case round =>
    obtain ⟨k, hk, rfl, hown, hkp⟩ := hrel
    have hsz := hkp.le
    have HOwn := hid hown
    have hlen : ((l.take k).map showM).length = k := by simp; omega
    clear hown
    by_cases hlt : k < l.length
    · obtain ⟨m, hm⟩ : ∃ m, l[k]? = some m := ⟨l[k], List.getElem?_eq_getElem hlt⟩
      obtain ⟨b, off, rfl, hb, lv, q0, q1, q2, q3, hr⟩ := at_val (HL.out.kp CeVal.kp hkp) hm
      have hml : m.l.length ≤ 1000000000000 := by have := sum_mem (fun m => bkVal m + 1) l m (List.mem_of_getElem? hm); have := HB.out; unfold bkVal at *; omega
      have HR := hid hr
      have HM := hid hm
      obtain ⟨A2, c2, rfl⟩ := hr.form
      have i1 : (k : Int) < (l.length : Int) := by omega
      have b1 : ((l.take k).map showM).length + 1 ≤ maxLen := by rw [hlen]; unfold maxLen; omega
      have b2 : (((l.take k).map showM).length + 1) * 16 ≤ 140737488355328 := by rw [hlen]; omega
      have B1 := hid b1; have B2 := hid b2
      clear hm hr b1 b2
      go_wp2_with (first
        | (go_at_call 34; go_must (refine (show_any _ m _ (HR.out.kp ((Kp.refl _).alloc _)) hml).mono ?_); rintro e w1 ⟨rfl, hk1⟩; have hown1 := hid (HOwn.out.kp (((Kp.refl _).alloc _).trans hk1)); have hz1 : w.heap.size ≤ w1.heap.size := Nat.le_trans hsz (((Kp.refl _).alloc _).trans hk1).le)
        | (at_builtin; go_must (refine app_lit elStr rfl (.tmp 12) (.tmp 15) rfl hown1.out rfl _ _ 1 1 rfl rfl (by intro u hu; simp at hu; subst hu; rfl) B1.out B2.out hz1 ?_); intro v2 w2 hown2 hg2 hm2 hn2 hb2))
      go_roundw
      case rel =>
        have ht : ((l.take k).map showM) ++ [showM m] = (l.take (k + 1)).map showM := by rw [← take_snoc HM.out]; simp
        exact ⟨k + 1, by omega, by simp, by rw [← ht]; exact OwnS.snoc rfl hown2, Below.trans ((hkp.alloc _).trans hk1) hb2⟩
      case measure => simp [intOf]; omega
    · obtain rfl : k = l.length := by omega
      rw [List.take_length] at HOwn
      have i1 : ¬ ((l.length : Int) < (l.length : Int)) := by omega
      have hJ := jn_len l HOK.out
      have hJ2 : Lib.join ((l.map showM).map (·.data.toList)) [32] = jn l := by unfold jn; rw [List.map_map]; rfl
      have hB := HB.out
      have hl4 : (l.map showM).length ≤ 140737488355328 := by simp; omega
      have hJ4 : (jn l).length ≤ 140737488355328 := by omega
      have j1 : ¬ 9223372036854775807 < (jn l).length + 1 := by omega
      have HJ2 := hid hJ2
      clear hJ hJ2 hB
      go_wp2_with (go_at_call 50; go_must (refine (join_is _ (l.map showM) ⟨#[32]⟩ _ _ HOwn.out hl4 HJ2.out hJ4).mono ?_); rintro e w1 ⟨rfl, hk1⟩)
      go_ret
      exact ⟨by congr 2, hkp.trans hk1⟩
end Go.Proofs.Ytffjfkmnlfndkaa
