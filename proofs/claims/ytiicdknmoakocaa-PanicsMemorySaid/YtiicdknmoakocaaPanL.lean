/-
  What the laws of panics read of the states that events come to. Condition: at most 400 events, each of which may happen.
-/
import Derived.Test.YtiicdknmoakocaaPanK
import Derived.Test.YtiicdknmoakocaaPanY
namespace Go.Proofs.Ytiicdknmoakocaa
open Go.RowKit
set_option linter.unusedVariables false
set_option linter.unusedSimpArgs false

theorem Gr.mono {k k' : Nat} {p : PlM} (h : Gr k p) (hk : k ≤ k') : Gr k' p := ⟨h.fl, h.n0, by have := h.n1; omega, h.s0, by have := h.s1; omega, by have := h.pl; omega, fun f hf => by have := h.df f hf; omega⟩
theorem states_good : ∀ (l : List EventM) (S : PlM) (k : Nat), Good S → Gr k S → ∀ R ∈ statesM S l, Good R ∧ R.told = [] ∧ Gr (k + l.length) R
  | [], S, k, _, _, R, hR => by cases hR
  | e :: l, S, k, hG, hg, R, hR => by
    unfold statesM at hR
    by_cases he : S.en = 0
    · rw [if_pos he] at hR
      have h1 := next_good (hG.runs he) e
      have h2 := hg.next e
      have hl : k + (e :: l).length = (k + 1) + l.length := by rw [List.length_cons]; omega
      rw [hl]
      rcases List.mem_cons.1 hR with rfl | hR
      · exact ⟨h1, rfl, h2.mono (by omega)⟩
      · exact states_good l _ (k + 1) h1 h2 R hR
    · rw [if_neg he] at hR; cases hR
theorem all_good {l : List EventM} (hl : l.length ≤ 400) : ∀ R ∈ st0 :: statesM st0 l, Good R ∧ R.told = [] ∧ Gr 400 R := by
  intro R hR
  rcases List.mem_cons.1 hR with rfl | hR
  · exact ⟨.inl st0_runs, rfl, st0_gr.mono (by omega)⟩
  · obtain ⟨h1, h2, h3⟩ := states_good l st0 0 (.inl st0_runs) st0_gr R hR
    exact ⟨h1, h2, h3.mono (by omega)⟩
theorem states_len : ∀ (l : List EventM) (S : PlM), (statesM S l).length = (allM S l).length
  | [], _ => rfl
  | e :: l, S => by
    unfold statesM allM
    by_cases he : S.en = 0
    · rw [if_pos he, if_pos he, List.length_cons, List.length_cons, states_len l]
    · rw [if_neg he, if_neg he]; rfl
theorem all_le : ∀ (l : List EventM) (S : PlM), (allM S l).length ≤ l.length
  | [], _ => Nat.le_refl _
  | e :: l, S => by
    unfold allM
    by_cases he : S.en = 0
    · rw [if_pos he, List.length_cons, List.length_cons]; have := all_le l (nextM S e); omega
    · rw [if_neg he]; exact Nat.zero_le _
/-- The round i: from a state at work, by the event i. -/
theorem round_at : ∀ (l : List EventM) (S : PlM) (i : Nat) (T : List TellM), (allM S l)[i]? = some T → ∃ R e, (S :: statesM S l)[i]? = some R ∧ l[i]? = some e ∧ R.en = 0 ∧ T = (eventM R e).told ∧ (S :: statesM S l)[i + 1]? = some (nextM R e)
  | [], S, i, T, h => by simp [allM] at h
  | e :: l, S, i, T, h => by
    unfold allM at h
    by_cases he : S.en = 0
    · rw [if_pos he] at h
      unfold statesM
      rw [if_pos he]
      cases i with
      | zero =>
        rw [List.getElem?_cons_zero] at h
        cases h
        exact ⟨S, e, rfl, rfl, he, rfl, rfl⟩
      | succ i =>
        rw [List.getElem?_cons_succ] at h
        obtain ⟨R, e', h1, h2, h3, h4, h5⟩ := round_at l (nextM S e) i T h
        exact ⟨R, e', h1, h2, h3, h4, h5⟩
    · rw [if_neg he] at h; simp at h
theorem OSts.rd {w : World} {base : Nat} {v : Value} {L : List PlM} (h : OSts w base v L) : RdL (CeSt base) 6 w v L := OwnL.rd h
theorem OAll.rd {w : World} {base : Nat} {v : Value} {L : List (List TellM)} (h : OAll w base v L) : RdL (CeTs base) 1 w v L := OwnL.rd h
theorem at_sts {w : World} {base : Nat} {A : Option Addr} {n c : Nat} {L : List PlM} {i : Nat} {S : PlM} (h : OSts w base (.slice A n c) L) (hi : L[i]? = some S) : ∃ b off, A = some ⟨b, off, none⟩ ∧ b < w.heap.size ∧ ∃ fv pv, w.cell? ⟨b, off + i * 6, none⟩ = some fv ∧ w.cell? ⟨b, off + i * 6 + 1, none⟩ = some pv ∧ w.cell? ⟨b, off + i * 6 + 2, none⟩ = some (.int .i64 S.next) ∧ w.cell? ⟨b, off + i * 6 + 3, none⟩ = some (.int .i64 S.ser) ∧ w.cell? ⟨b, off + i * 6 + 4, none⟩ = some (.int .i64 S.en) ∧ w.cell? ⟨b, off + i * 6 + 5, none⟩ = some (.int .i64 S.stat) ∧ StOwn w base fv pv S := by
  obtain ⟨b, off, cs, g1, g2, g3, _, g4⟩ := h.rd.at_ hi
  obtain ⟨fv, pv, rfl, h0⟩ := g3
  exact ⟨b, off, g1, g2, fv, pv, g4 0 (by omega), g4 1 (by omega), g4 2 (by omega), g4 3 (by omega), g4 4 (by omega), g4 5 (by omega), h0⟩
theorem at_tds {w : World} {base : Nat} {A : Option Addr} {n c : Nat} {L : List (List TellM)} {i : Nat} {T : List TellM} (h : OAll w base (.slice A n c) L) (hi : L[i]? = some T) : ∃ b off, A = some ⟨b, off, none⟩ ∧ b < w.heap.size ∧ ∃ tv, w.cell? ⟨b, off + i, none⟩ = some tv ∧ TdRow w base tv T := by
  obtain ⟨b, off, cs, g1, g2, g3, _, g4⟩ := h.rd.at_ hi
  obtain ⟨tv, rfl, h0⟩ := g3
  have g5 := g4 0 (by omega)
  rw [Nat.mul_one] at g5
  exact ⟨b, off, g1, g2, tv, g5, h0⟩
theorem at_td {w : World} {base : Nat} {A : Option Addr} {n c : Nat} {T : List TellM} {i : Nat} {t : TellM} (h : TdRow w base (.slice A n c) T) (hi : T[i]? = some t) : ∃ b off, A = some ⟨b, off, none⟩ ∧ b < w.heap.size ∧ ∃ A' c', w.cell? ⟨b, off + i * 7, none⟩ = some (.int .i64 t.kind) ∧ w.cell? ⟨b, off + i * 7 + 1, none⟩ = some (.int .i64 t.n) ∧ w.cell? ⟨b, off + i * 7 + 2, none⟩ = some (.int .i64 t.to) ∧ w.cell? ⟨b, off + i * 7 + 3, none⟩ = some (.int .i64 t.v.k) ∧ w.cell? ⟨b, off + i * 7 + 4, none⟩ = some (.int .i64 t.v.n) ∧ w.cell? ⟨b, off + i * 7 + 5, none⟩ = some (.string t.v.s) ∧ w.cell? ⟨b, off + i * 7 + 6, none⟩ = some (.slice A' 0 c') ∧ okT t := by
  obtain ⟨b, off, cs, g1, g2, g3, _, g4⟩ := (OwnL.rd h).at_ hi
  obtain ⟨A', c', rfl, h0⟩ := g3
  exact ⟨b, off, g1, g2, A', c', g4 0 (by omega), g4 1 (by omega), g4 2 (by omega), g4 3 (by omega), g4 4 (by omega), g4 5 (by omega), g4 6 (by omega), h0⟩
theorem at_pn {w : World} {base : Nat} {A : Option Addr} {n c : Nat} {P : List PanicM} {i : Nat} {q : PanicM} (h : PnRow w base (.slice A n c) P) (hi : P.reverse[i]? = some q) : ∃ b off, A = some ⟨b, off, none⟩ ∧ b < w.heap.size ∧ ∃ A' c', w.cell? ⟨b, off + i * 7, none⟩ = some (.int .i64 q.serial) ∧ w.cell? ⟨b, off + i * 7 + 1, none⟩ = some (.int .i64 q.val.k) ∧ w.cell? ⟨b, off + i * 7 + 2, none⟩ = some (.int .i64 q.val.n) ∧ w.cell? ⟨b, off + i * 7 + 3, none⟩ = some (.string q.val.s) ∧ w.cell? ⟨b, off + i * 7 + 4, none⟩ = some (.slice A' 0 c') ∧ w.cell? ⟨b, off + i * 7 + 5, none⟩ = some (.bool q.rcd) ∧ w.cell? ⟨b, off + i * 7 + 6, none⟩ = some (.bool q.abt) ∧ okP q := by
  obtain ⟨b, off, cs, g1, g2, g3, _, g4⟩ := (OwnL.rd h).at_ hi
  obtain ⟨A', c', rfl, h0⟩ := g3
  exact ⟨b, off, g1, g2, A', c', g4 0 (by omega), g4 1 (by omega), g4 2 (by omega), g4 3 (by omega), g4 4 (by omega), g4 5 (by omega), g4 6 (by omega), h0⟩
theorem Rising.pairs {l : List PanicM} {s : Int} (h : Rising l s) : l.Pairwise fun a b => b.serial < a.serial := by
  induction l generalizing s with
  | nil => exact List.Pairwise.nil
  | cons q r ih => exact List.Pairwise.cons (fun b hb => h.2.lt b hb) (ih h.2)
theorem Rising.at_ {l : List PanicM} {s : Int} (h : Rising l s) {i j : Nat} {a b : PanicM} (hij : i < j) (ha : l.reverse[i]? = some a) (hb : l.reverse[j]? = some b) : a.serial < b.serial := by
  have hp : l.reverse.Pairwise fun a b => a.serial < b.serial := List.pairwise_reverse.2 h.pairs
  obtain ⟨hi, rfl⟩ := List.getElem?_eq_some_iff.1 ha
  obtain ⟨hj, rfl⟩ := List.getElem?_eq_some_iff.1 hb
  exact List.pairwise_iff_getElem.1 hp i j hi hj hij
theorem Good.ris {p : PlM} (h : Good p) : Rising p.pn p.ser := by
  rcases h with h | h
  · exact h.ris
  · exact h.ris
theorem Good.lst {p : PlM} (h : Good p) : LastLive p.pn := by
  rcases h with h | h
  · exact h.ev.2
  · exact h.lst
theorem last_rev {α : Type} {l : List α} {q : α} {r : List α} (h : l = q :: r) : l.reverse[l.length - 1]? = some q := by
  subst h; simp
/-- A round of a counting loop goes on to the next number. -/
theorem round_up {W u : World} {n m : Nat} (hw : wrap64 ((m : Int) + 1) = ((m + 1 : Nat) : Int)) (hlm : m < n) (hk : Kp W u) : (∃ m' : Nat, m' ≤ n ∧ Value.int .i64 (wrap64 ((m : Int) + 1)) = .int .i64 (m' : Int) ∧ Kp W u) ∧ n - (intOf (.int .i64 (wrap64 ((m : Int) + 1)))).toNat < n - (intOf (.int .i64 (m : Int))).toNat := by
  rw [hw]
  exact ⟨⟨m + 1, hlm, rfl, hk⟩, by simp only [intOf, Int.toNat_natCast]; omega⟩
theorem wrap_up {n : Nat} (h : n < 9000000000000000000) : wrap64 ((n : Int) + 1) = ((n + 1 : Nat) : Int) := by unfold wrap64; omega
theorem round_up0 {W u : World} {n : Nat} (hlm : 0 < n) (hk : Kp W u) : (∃ m' : Nat, m' ≤ n ∧ Value.int .i64 1 = .int .i64 (m' : Int) ∧ Kp W u) ∧ n - (intOf (.int .i64 1)).toNat < n - (intOf (.int .i64 ((0 : Nat) : Int))).toNat :=
  ⟨⟨1, hlm, rfl, hk⟩, by simp only [intOf]; omega⟩
theorem states_le {l : List EventM} (h : l.length ≤ 400) : (st0 :: statesM st0 l).length ≤ 401 := by
  rw [List.length_cons, states_len]; have := all_le l st0; omega
theorem round_upB {W u : World} {n m : Nat} {B : Nat → Bool} {X : Bool} (hX : X = B (m + 1)) (hw : wrap64 ((m : Int) + 1) = ((m + 1 : Nat) : Int)) (hlm : m < n) (hk : Kp W u) : (∃ m' : Nat, m' ≤ n ∧ Value.bool X = .bool (B m') ∧ Value.int .i64 (wrap64 ((m : Int) + 1)) = .int .i64 (m' : Int) ∧ Kp W u) ∧ n - (intOf (.int .i64 (wrap64 ((m : Int) + 1)))).toNat < n - (intOf (.int .i64 (m : Int))).toNat := by
  rw [hw]
  exact ⟨⟨m + 1, hlm, by rw [hX], rfl, hk⟩, by simp only [intOf, Int.toNat_natCast]; omega⟩
theorem take_any {α : Type} {l : List α} {k : Nat} {a : α} (h : l[k]? = some a) (f : α → Bool) : (l.take (k + 1)).any f = ((l.take k).any f || f a) := by
  obtain ⟨hk, rfl⟩ := List.getElem?_eq_some_iff.1 h
  rw [List.take_succ_eq_append_getElem hk, List.any_append]; simp
theorem round_up1 {W u : World} {n m m1 : Nat} (h1 : m1 = m + 1) (hlm : m < n) (hk : Kp W u) : (∃ m' : Nat, m' ≤ n ∧ Value.int .i64 (m1 : Int) = .int .i64 (m' : Int) ∧ Kp W u) ∧ n - (intOf (.int .i64 (m1 : Int))).toNat < n - (intOf (.int .i64 (m : Int))).toNat := by
  subst h1
  exact ⟨⟨m + 1, hlm, rfl, hk⟩, by simp only [intOf, Int.toNat_natCast]; omega⟩
end Go.Proofs.Ytiicdknmoakocaa
