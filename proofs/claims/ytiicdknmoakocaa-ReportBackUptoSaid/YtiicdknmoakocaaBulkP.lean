/-
  What the bound of an Upto statement gives: of lists of panics. No condition.
-/
import Derived.Test.YtiicdknmoakocaaPnc
import Derived.Test.YtiicdknmoakocaaRows
namespace Go.Proofs.Ytiicdknmoakocaa
open Go.RowKit Go.ChangeShapes Go.WideShapes Go.Deep Go.Joins
set_option linter.unusedVariables false

theorem bulk_one {H : Type} (d : DataW H) : 1 ≤ Rows.uptoBulk d := by
  cases d with
  | lit l => cases l <;> simp [Rows.uptoBulk]
  | nil => simp [Rows.uptoBulk]
  | ptr d => simp [Rows.uptoBulk]
  | slice elems spare => simp [Rows.uptoBulk]
  | agg parts => simp [Rows.uptoBulk]
  | iface t d => simp [Rows.uptoBulk]
  | map entries => simp [Rows.uptoBulk]
  | held h => simp [Rows.uptoBulk]
theorem bulk_len {H : Type} (l : List (DataW H)) : l.length ≤ Rows.uptoBulkAll l := by
  induction l with
  | nil => simp [Rows.uptoBulkAll]
  | cons x r ih => have := bulk_one x; simp only [Rows.uptoBulkAll, List.length_cons]; omega
theorem bulk_sum {H : Type} {α : Type} (f : α → Nat) : ∀ (l : List α) (D : Nat → DataW H), (∀ i m, l[i]? = some m → f m ≤ Rows.uptoBulk (D i)) → (l.map f).sum ≤ Rows.uptoBulkAll ((List.range l.length).map D)
  | [], D, _ => by simp [Rows.uptoBulkAll]
  | a :: l, D, h => by
    have h0 := h 0 a rfl
    have ih := bulk_sum f l (fun i => D (i + 1)) (fun i m hi => h (i + 1) m (by simpa using hi))
    rw [List.length_cons, List.range_succ_eq_map, List.map_cons, List.sum_cons, List.map_cons, List.map_map]
    simp only [Rows.uptoBulkAll]
    have e : (D ∘ Nat.succ) = fun i => D (i + 1) := rfl
    rw [e]; omega
theorem sum_mem {α : Type} (f : α → Nat) : ∀ (l : List α) (m : α), m ∈ l → f m ≤ (l.map f).sum
  | [], _, h => by cases h
  | a :: l, m, h => by
    rw [List.map_cons, List.sum_cons]
    rcases List.mem_cons.1 h with rfl | h
    · omega
    · have := sum_mem f l m h; omega
theorem sum_len {α : Type} (f : α → Nat) : ∀ (l : List α), (l.map fun m => f m + 1).sum = (l.map f).sum + l.length
  | [] => rfl
  | a :: l => by
    have := sum_len f l
    simp only [List.map_cons, List.sum_cons, List.length_cons]; omega

def bkVal (m : ValM) : Nat := m.s.size + m.l.length
section
variable {H : Type} {enc : TypeId × Value → H} {W : World} {base : Nat} {v : Value} {d : DataW H} {p : List MemPlace}
theorem ints_bulk {fuel : Nat} {cs : List Value} {A : Option Addr} {n c : Nat} (hf : DataW.trod enc Try.prog W 0 (fun _ => true) true fuel 23 cs = some (d, p)) (hcs : cs = [.slice A n c]) : n + 1 ≤ Rows.uptoBulk d := by
  rcases open_ints Try.underlying23 Try.underlying3 (by kernel_rfl) hf with ⟨h1, hx⟩ | ⟨a, len, cap, zs, h1, _, hl, hm, hzl, hx, _⟩
  · rw [h1] at hcs
    cases hcs
    simp only [Prod.mk.injEq] at hx
    rw [hx.1]; simp [Rows.uptoBulk]
  · rw [h1] at hcs
    cases hcs
    simp only [Prod.mk.injEq] at hx
    simp only [if_true] at hzl
    rw [hx.1]
    simp only [Rows.uptoBulk]
    have := bulk_len (lits (H := H) .i64 (zs.take n))
    simp only [lits, List.length_map, List.length_take] at this
    simp only [lits]
    omega
theorem val_bulk {fuel : Nat} {cs : List Value} {m : ValM} (hf : DataW.trod enc Try.prog W 0 (fun _ => true) true fuel 25 cs = some (d, p)) (h : CeVal W cs m) : bkVal m + 1 ≤ Rows.uptoBulk d := by
  obtain ⟨lv, rfl, hl, _⟩ := h
  obtain ⟨A, c, rfl⟩ := hl.form
  obtain ⟨xs, n, _, hx, hlen, hxl, hi⟩ := DataW.trod_struct Try.underlying25 hf
  simp only [Prod.mk.injEq] at hx
  obtain ⟨rfl, rfl⟩ := hx
  match xs, hxl with
  | [y0, y1, y2, y3], _ =>
    have e2 : Try.prog.cellsOf 9 = 1 := by kernel_rfl
    have e3 : Try.prog.cellsOf 23 = 1 := by kernel_rfl
    have h2 : DataW.trod enc Try.prog W 0 (fun _ => true) true n 9 (([.int .i64 m.k, .int .i64 m.n, .string m.s, .slice A m.l.length c].drop 2).take (Try.prog.cellsOf 9)) = some y2 := hi 2 _ rfl
    have h3 : DataW.trod enc Try.prog W 0 (fun _ => true) true n 23 (([.int .i64 m.k, .int .i64 m.n, .string m.s, .slice A m.l.length c].drop 3).take (Try.prog.cellsOf 23)) = some y3 := hi 3 _ rfl
    rw [e2] at h2; rw [e3] at h3
    obtain ⟨s2, g2, x2, _⟩ := DataW.trod_string Try.underlying9 h2
    have b3 := ints_bulk (d := y3.1) (p := y3.2) h3 rfl
    simp at g2
    subst g2
    simp only [Rows.uptoBulk, Rows.uptoBulkAll, List.map_cons, List.map_nil]
    rw [x2]
    simp only [Rows.uptoBulk]
    have hs : m.s.data.toList.length = m.s.size := by rw [Array.length_toList]; rfl
    unfold bkVal
    omega
theorem pnc_bulk {fuel : Nat} {cs : List Value} {m : PanicM} (hf : DataW.trod enc Try.prog W 0 (fun _ => true) true fuel 46 cs = some (d, p)) (h : CePanic W cs m) : bkVal m.val + 1 ≤ Rows.uptoBulk d := by
  obtain ⟨lv, rfl, _, hl, g1, g2, g3, g4⟩ := h
  obtain ⟨xs, n, _, hx, hlen, hxl, hi⟩ := DataW.trod_struct Try.underlying46 hf
  simp only [Prod.mk.injEq] at hx
  obtain ⟨rfl, rfl⟩ := hx
  match xs, hxl with
  | [y0, y1, y2, y3], _ =>
    have e1 : Try.prog.cellsOf 25 = 4 := by kernel_rfl
    have h1 : DataW.trod enc Try.prog W 0 (fun _ => true) true n 25 (([.int .i64 m.serial, .int .i64 m.val.k, .int .i64 m.val.n, .string m.val.s, lv, .bool m.rcd, .bool m.abt].drop 1).take (Try.prog.cellsOf 25)) = some y1 := hi 1 _ rfl
    rw [e1] at h1
    have b1 := val_bulk (m := m.val) (d := y1.1) (p := y1.2) h1 ⟨lv, rfl, hl, g1, g2, g3, g4⟩
    simp only [Rows.uptoBulk, Rows.uptoBulkAll, List.map_cons, List.map_nil]
    omega
set_option maxRecDepth 100000 in
theorem pncs_bulk {fuel : Nat} {l : List PanicM} (hf : DataW.trod enc Try.prog W 0 (fun _ => true) true fuel 34 [v] = some (d, p)) (h : RdL CePanic 7 W v l) : (l.map fun m => bkVal m.val + 1).sum ≤ Rows.uptoBulk d := by
  obtain ⟨A, c, rfl, _, hg⟩ := h
  rcases open_slice Try.underlying34 hf with ⟨h1, _⟩ | ⟨a, len, cap, m, n, D, Pl, hcs, hb, hl, hm, hmm, hx, hi⟩
  · have h0 : l.length = 0 := by
      simp only [List.cons.injEq, Value.slice.injEq, and_true] at h1
      exact h1.2.1
    rw [List.eq_nil_of_length_eq_zero h0]; simp
  · simp only [Prod.mk.injEq] at hx
    obtain ⟨rfl, rfl⟩ := hx
    simp only [if_true] at hmm
    have h1 : A = some a ∧ l.length = len := by
      simp only [List.cons.injEq, Value.slice.injEq, and_true] at hcs
      exact ⟨hcs.1, hcs.2.1⟩
    obtain ⟨rfl, rfl⟩ := h1
    simp only [Rows.uptoBulk]
    have hs := bulk_sum (H := H) (fun m : PanicM => bkVal m.val + 1) l D (fun i x hx => ?_)
    · omega
    · obtain ⟨b, off, cs, e, hbl, hce, hlen, hc⟩ := hg i x hx
      cases e
      have hil : i < l.length := by
        rcases Nat.lt_or_ge i l.length with h | h
        · exact h
        · rw [List.getElem?_eq_none h] at hx; cases hx
      obtain ⟨cs', h1, h2⟩ := hi i (by omega)
      have hC : Try.prog.cellsOf 46 = 7 := by kernel_rfl
      rw [hC] at h1
      obtain ⟨_, hcl, hat⟩ := World.cells?_some h1
      have hadd1 : ∀ j, (⟨b, off, none⟩ : Addr).add j = ⟨b, off + j, none⟩ := by intro j; unfold Addr.add; split <;> simp_all
      have hadd : ∀ j, ((⟨b, off, none⟩ : Addr).add (i * 7)).add j = ⟨b, off + i * 7 + j, none⟩ := by
        intro j; rw [hadd1]; unfold Addr.add; split <;> simp_all
      have hcs : cs' = cs := by
        apply List.ext_getElem?
        intro j
        rcases Nat.lt_or_ge j 7 with hj | hj
        · rw [← hat j hj, ← hc j hj, hadd]
        · rw [List.getElem?_eq_none (by omega), List.getElem?_eq_none (by omega)]
      rw [hcs] at h2
      exact pnc_bulk h2 hce
set_option maxRecDepth 100000 in
theorem open_panicsU (hval : Value.okWide Try.prog W .any base 34 v) (h : DataW.Trod enc Try.prog W 0 (fun _ => true) true 34 v d p) (hz : ∀ n ∈ DataW.weights Try.prog 34 d, n ≤ reachBytes) (hb : Rows.uptoBulk d ≤ 1048576) : ∃ l, RdL CePanic 7 W v l ∧ (l.map fun m => bkVal m.val + 1).sum ≤ 1048576 := by
  obtain ⟨l, hl, _⟩ := open_panics hval h hz
  obtain ⟨fuel, hf⟩ := h
  refine ⟨l, hl, ?_⟩
  obtain ⟨A, c, rfl, _⟩ := id hl
  have := pncs_bulk hf hl
  omega
end
def RdPanicsU (w : World) (v : Value) (l : List PanicM) : Prop := RdL CePanic 7 w v l ∧ (l.map fun m => bkVal m.val + 1).sum ≤ 1048576
end Go.Proofs.Ytiicdknmoakocaa
