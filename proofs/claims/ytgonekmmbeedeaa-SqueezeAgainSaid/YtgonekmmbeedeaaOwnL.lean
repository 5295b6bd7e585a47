/-
  Rows of structs that a call owns, and reading them. No condition.
-/
import Derived.Test.YtgonekmmbeedeaaMem
import Derived.Test.YtgonekmmbeedeaaList
namespace Go.Proofs.Ytgonekmmbeedeaa
open Go.RowKit

/-- The old cells behind a call, below a number that is written out. -/
theorem kp_at {W w1 : World} (hb : Kp W w1) (n : Nat) (h : W.heap.size = n) : (∀ b o, b < n → w1.cell? ⟨b, o, none⟩ = W.cell? ⟨b, o, none⟩) ∧ (∀ b o, b < n → w1.frozen? ⟨b, o, none⟩ = W.frozen? ⟨b, o, none⟩) ∧ n ≤ w1.heap.size := by
  subst h; exact ⟨hb.cells.1, hb.cells.2, hb.le⟩
theorem cell_kp {w w' : World} {b o : Nat} {v : Value} (hk : Kp w w') (hb : b < w.heap.size) (h : w.cell? ⟨b, o, none⟩ = some v) : w'.cell? ⟨b, o, none⟩ = some v := (hk.cells.1 _ _ hb).trans h
/-- The cells xs, sz of them an element, are what 'el' says of the list. -/
def Chunk {α : Type} (el : World → List Value → α → Prop) (sz : Nat) (w : World) : List Value → List α → Prop
  | xs, [] => xs = []
  | xs, a :: l => ∃ cs r, xs = cs ++ r ∧ cs.length = sz ∧ el w cs a ∧ Chunk el sz w r l
theorem Chunk.append {α : Type} {el : World → List Value → α → Prop} {sz : Nat} {w : World} {ys : List Value} {m : List α} (hm : Chunk el sz w ys m) : ∀ {l : List α} {xs : List Value}, Chunk el sz w xs l → Chunk el sz w (xs ++ ys) (l ++ m)
  | [], xs, h => by unfold Chunk at h; subst h; exact hm
  | a :: l, xs, h => by
    obtain ⟨cs, r, rfl, h1, h2, h3⟩ := h
    exact ⟨cs, r ++ ys, by rw [List.append_assoc], h1, h2, Chunk.append hm h3⟩
theorem Chunk.one {α : Type} {el : World → List Value → α → Prop} {sz : Nat} {w : World} {cs : List Value} {a : α} (h : el w cs a) (hl : cs.length = sz) : Chunk el sz w cs [a] := ⟨cs, [], by simp, hl, h, rfl⟩
theorem Chunk.kp {α : Type} {el : World → List Value → α → Prop} (hel : ElKp el) {sz : Nat} {w w' : World} (hk : Kp w w') : ∀ {l : List α} {xs : List Value}, Chunk el sz w xs l → Chunk el sz w' xs l
  | [], xs, h => h
  | a :: l, xs, h => by
    obtain ⟨cs, r, rfl, h1, h2, h3⟩ := h
    exact ⟨cs, r, rfl, h1, hel _ _ _ _ hk h2, Chunk.kp hel hk h3⟩
theorem Chunk.mono {α : Type} {el el' : World → List Value → α → Prop} {sz : Nat} {w w' : World} (hel : ∀ cs a, el w cs a → el' w' cs a) : ∀ {l : List α} {xs : List Value}, Chunk el sz w xs l → Chunk el' sz w' xs l
  | [], xs, h => h
  | a :: l, xs, h => by
    obtain ⟨cs, r, rfl, h1, h2, h3⟩ := h
    exact ⟨cs, r, rfl, h1, hel _ _ h2, Chunk.mono hel h3⟩
theorem Chunk.len {α : Type} {el : World → List Value → α → Prop} {sz : Nat} {w : World} : ∀ {l : List α} {xs : List Value}, Chunk el sz w xs l → xs.length = l.length * sz
  | [], xs, h => by unfold Chunk at h; subst h; simp
  | a :: l, xs, h => by
    obtain ⟨cs, r, rfl, h1, h2, h3⟩ := h
    have := Chunk.len h3
    rw [List.length_append, List.length_cons, Nat.add_mul]; omega
theorem Chunk.get {α : Type} {el : World → List Value → α → Prop} {sz : Nat} {w : World} : ∀ {l : List α} {xs : List Value} {i : Nat} {a : α}, Chunk el sz w xs l → l[i]? = some a → ∃ cs, el w cs a ∧ cs.length = sz ∧ ∀ j, j < sz → xs[i * sz + j]? = cs[j]?
  | [], xs, i, a, h, hi => by simp at hi
  | b :: l, xs, 0, a, h, hi => by
    obtain ⟨cs, r, rfl, h1, h2, h3⟩ := h
    simp only [List.getElem?_cons_zero, Option.some.injEq] at hi
    subst hi
    exact ⟨cs, h2, h1, fun j hj => by rw [Nat.zero_mul, Nat.zero_add, List.getElem?_append_left (by omega)]⟩
  | b :: l, xs, i + 1, a, h, hi => by
    obtain ⟨cs, r, rfl, h1, h2, h3⟩ := h
    rw [List.getElem?_cons_succ] at hi
    obtain ⟨cs', g1, g2, g3⟩ := Chunk.get h3 hi
    refine ⟨cs', g1, g2, fun j hj => ?_⟩
    rw [← g3 j hj, List.getElem?_append_right (by rw [Nat.add_mul]; omega)]
    congr 1; rw [Nat.add_mul]; omega
theorem Chunk.take {α : Type} {el : World → List Value → α → Prop} {sz : Nat} {w : World} : ∀ {l : List α} {xs : List Value} (n : Nat), Chunk el sz w xs l → Chunk el sz w (xs.take (n * sz)) (l.take n)
  | [], xs, n, h => by unfold Chunk at h; subst h; simp [Chunk]
  | a :: l, xs, 0, h => by simp [Chunk]
  | a :: l, xs, n + 1, h => by
    obtain ⟨cs, r, rfl, h1, h2, h3⟩ := h
    refine ⟨cs, r.take (n * sz), ?_, h1, h2, Chunk.take n h3⟩
    rw [List.take_append, h1, Nat.add_mul, Nat.one_mul, Nat.add_sub_cancel, List.take_of_length_le (by omega)]
theorem Chunk.set {α : Type} {el : World → List Value → α → Prop} {sz : Nat} {w : World} (j : Nat) (hj : j < sz) (u : Value) : ∀ {l : List α} {xs : List Value} {i : Nat} {a b : α}, Chunk el sz w xs l → l[i]? = some a → (∀ cs, el w cs a → cs.length = sz → el w (cs.set j u) b) → Chunk el sz w (xs.set (i * sz + j) u) (l.set i b)
  | [], xs, i, a, b, h, hi, _ => by simp at hi
  | c :: l, xs, 0, a, b, h, hi, hu => by
    obtain ⟨cs, r, rfl, h1, h2, h3⟩ := h
    simp only [List.getElem?_cons_zero, Option.some.injEq] at hi
    subst hi
    refine ⟨cs.set j u, r, ?_, by rw [List.length_set]; exact h1, hu cs h2 h1, h3⟩
    rw [Nat.zero_mul, Nat.zero_add, List.set_append_left _ _ (by omega)]
  | c :: l, xs, i + 1, a, b, h, hi, hu => by
    obtain ⟨cs, r, rfl, h1, h2, h3⟩ := h
    rw [List.getElem?_cons_succ] at hi
    refine ⟨cs, r.set (i * sz + j) u, ?_, h1, h2, Chunk.set j hj u h3 hi hu⟩
    rw [List.set_append_right _ _ (by rw [Nat.add_mul]; omega)]
    congr 2; rw [Nat.add_mul]; omega

/-- v is a row of the call's own that reads as the list. -/
def OwnL {α : Type} (el : World → List Value → α → Prop) (sz : Nat) (e : TypeId) (w : World) (base : Nat) (v : Value) (l : List α) : Prop := ∃ xs, w.ownsRow base e sz v l.length xs ∧ Chunk el sz w xs l
theorem OwnL.nil {α : Type} (el : World → List Value → α → Prop) (sz : Nat) (e : TypeId) (w : World) (base : Nat) : OwnL el sz e w base (.slice none 0 0) ([] : List α) := ⟨[], World.ownsRow_nil _ _ _ _, rfl⟩
theorem ownsRow_keep {w w' : World} {base : Nat} {e : TypeId} {size n : Nat} {v : Value} {xs : List Value} (h : w.ownsRow base e size v n xs) (hk : Kp w w') : w'.ownsRow base e size v n xs := by
  refine World.ownsRow.kept h (row := none) ⟨hk.os, hk.tape, hk.output, hk.size, fun k hk1 _ => hk.block k hk1⟩ ?_
  rcases h.2 with ⟨rfl, _⟩ | ⟨g, cap, cur, rfl, _⟩
  · exact .inl rfl
  · exact .inr (by simp [Value.ownBlock])
theorem OwnL.kp {α : Type} {el : World → List Value → α → Prop} (hel : ElKp el) {sz : Nat} {e : TypeId} {w w' : World} {base : Nat} {v : Value} {l : List α} (h : OwnL el sz e w base v l) (hk : Kp w w') : OwnL el sz e w' base v l := by
  obtain ⟨xs, h1, h2⟩ := h
  exact ⟨xs, ownsRow_keep h1 hk, h2.kp hel hk⟩
theorem OwnL.base_ {α : Type} {el : World → List Value → α → Prop} {sz : Nat} {e : TypeId} {w : World} {b B : Nat} {v : Value} {l : List α} (hb : b ≤ B) (h : OwnL el sz e w B v l) : OwnL el sz e w b v l := by
  obtain ⟨xs, h1, h2⟩ := h
  exact ⟨xs, own_base hb h1, h2⟩
theorem OwnL.mono {α : Type} {el el' : World → List Value → α → Prop} {sz : Nat} {e : TypeId} {w : World} {base : Nat} {v : Value} {l : List α} (hel : ∀ cs a, el w cs a → el' w cs a) (h : OwnL el sz e w base v l) : OwnL el' sz e w base v l := by
  obtain ⟨xs, h1, h2⟩ := h
  exact ⟨xs, h1, h2.mono hel⟩
/-- The row as a reader sees it. -/
theorem OwnL.rd {α : Type} {el : World → List Value → α → Prop} {sz : Nat} {e : TypeId} {w : World} {base : Nat} {v : Value} {l : List α} (h : OwnL el sz e w base v l) : RdL el sz w v l := by
  obtain ⟨xs, h1, h2⟩ := h
  rcases h1.2 with ⟨rfl, h0⟩ | ⟨g, cap, cur, rfl, _, hg, hnc, _, hsz, htk⟩
  · obtain rfl := List.eq_nil_of_length_eq_zero h0
    exact RdL.nil_ _ _ _
  · refine ⟨_, cap, rfl, hnc, fun i a hi => ?_⟩
    obtain ⟨cs, g1, g2, g3⟩ := h2.get hi
    have hil : i < l.length := by
      rcases Nat.lt_or_ge i l.length with h | h
      · exact h
      · rw [List.getElem?_eq_none h] at hi; cases hi
    refine ⟨g, 0, cs, rfl, (Array.getElem?_eq_some_iff.1 hg).1, g1, g2, fun j hj => ?_⟩
    have hc : w.cell? ⟨g, 0 + i * sz + j, none⟩ = cur[i * sz + j]? := by simp [World.cell?, hg]
    rw [hc, ← g3 j hj, ← htk, List.getElem?_take]
    have : i * sz + sz ≤ l.length * sz := by
      have := Nat.mul_le_mul_right sz (show i + 1 ≤ l.length from hil)
      rw [Nat.add_mul] at this; omega
    rw [if_pos (by omega), Array.getElem?_toList]
/-- One element more. -/
theorem OwnL.snoc {α : Type} {el : World → List Value → α → Prop} {sz : Nat} {e : TypeId} {w w' : World} {base : Nat} {v' : Value} {l : List α} {a : α} {n : Nat} {xs cs : List Value} (hn : n = l.length + 1) (hx : Chunk el sz w xs l) (hk : ∀ cs a, el w cs a → el w' cs a) (ha : el w' cs a) (hl : cs.length = sz) (h : w'.ownsRow base e sz v' n (xs ++ cs)) : OwnL el sz e w' base v' (l ++ [a]) := by
  subst hn
  exact ⟨xs ++ cs, by rw [List.length_append]; exact h, Chunk.append (Chunk.one ha hl) (hx.mono hk)⟩

/-! ### what a store into a row of one type leaves of the rows of other types -/
/-- w' is w but for blocks whose elements are of the type e, and for new blocks. -/
def Touch (e : TypeId) (w w' : World) : Prop := w.heap.size ≤ w'.heap.size ∧ ∀ (k : Nat) (o : Obj), w.heap[k]? = some o → (∀ cs fr, o ≠ Obj.cells cs e fr) → w'.heap[k]? = some o
theorem Touch.refl (e : TypeId) (w : World) : Touch e w w := ⟨Nat.le_refl _, fun _ _ h _ => h⟩
theorem Touch.trans {e : TypeId} {a b c : World} (h : Touch e a b) (k : Touch e b c) : Touch e a c := ⟨Nat.le_trans h.1 k.1, fun i o h1 h2 => k.2 i o (h.2 i o h1 h2) h2⟩
theorem Touch.of_kp {e : TypeId} {w w' : World} (h : Kp w w') : Touch e w w' := ⟨h.le, fun k o h1 _ => by
  have hk : k < w.heap.size := (Array.getElem?_eq_some_iff.1 h1).1
  rw [h.block k hk]; exact h1⟩
theorem Touch.of_grown {e : TypeId} {w w' : World} {base size n : Nat} {v : Value} {xs : List Value} (h : w.ownsRow base e size v n xs) (hg : w.grownBy w' v.ownBlock) : Touch e w w' := by
  refine ⟨hg.size, fun k o h1 h2 => ?_⟩
  have hk : k < w.heap.size := (Array.getElem?_eq_some_iff.1 h1).1
  rw [hg.block k hk ?_]; · exact h1
  intro hc
  rcases h.2 with ⟨rfl, _⟩ | ⟨g, cap, cur, rfl, _, hgg, _⟩
  · cases hc
  · simp only [Value.ownBlock, Option.some.injEq] at hc
    subst hc
    rw [hgg] at h1
    exact h2 cur (0, 0) (Option.some.inj h1).symm
theorem ownsRow_touch {e e' : TypeId} (hne : e' ≠ e) {w w' : World} {base size n : Nat} {v : Value} {xs : List Value} (h : w.ownsRow base e' size v n xs) (ht : Touch e w w') : w'.ownsRow base e' size v n xs := by
  obtain ⟨h1, h2⟩ := h
  refine ⟨h1, ?_⟩
  rcases h2 with h2 | ⟨g, cap, cur, hv, hb, hg, r⟩
  · exact .inl h2
  · refine .inr ⟨g, cap, cur, hv, hb, ht.2 g _ hg (fun cs fr hc => ?_), r⟩
    injection hc with _ he _
    exact hne he

theorem take_snoc {α : Type} {l : List α} {k : Nat} {m : α} (h : l[k]? = some m) : l.take k ++ [m] = l.take (k + 1) := by
  rw [List.take_add_one, h]; rfl
/-! ### readers -/
theorem RdL.form {α : Type} {el : World → List Value → α → Prop} {sz : Nat} {w : World} {v : Value} {l : List α} (h : RdL el sz w v l) : ∃ A c, v = .slice A l.length c ∧ l.length ≤ c := by
  obtain ⟨A, c, h1, h2, _⟩ := h; exact ⟨A, c, h1, h2⟩
theorem RdL.mono {α : Type} {el el' : World → List Value → α → Prop} {sz : Nat} {w : World} {v : Value} {l : List α} (hel : ∀ cs a, el w cs a → el' w cs a) (h : RdL el sz w v l) : RdL el' sz w v l := by
  obtain ⟨A, c, h1, h2, h3⟩ := h
  refine ⟨A, c, h1, h2, fun i a hi => ?_⟩
  obtain ⟨b, off, cs, g1, g2, g3, g4⟩ := h3 i a hi
  exact ⟨b, off, cs, g1, g2, hel _ _ g3, g4⟩
/-- The element i: where it lies. -/
theorem RdL.at_ {α : Type} {el : World → List Value → α → Prop} {sz : Nat} {w : World} {A : Option Addr} {n c : Nat} {l : List α} {i : Nat} {a : α} (h : RdL el sz w (.slice A n c) l) (hi : l[i]? = some a) : ∃ b off cs, A = some ⟨b, off, none⟩ ∧ b < w.heap.size ∧ el w cs a ∧ cs.length = sz ∧ ∀ j, j < sz → w.cell? ⟨b, off + i * sz + j, none⟩ = cs[j]? := by
  obtain ⟨A', c', h1, _, h3⟩ := h
  cases h1
  exact h3 i a hi
theorem RdL.take {α : Type} {el : World → List Value → α → Prop} {sz : Nat} {w : World} {A : Option Addr} {n c k : Nat} {l : List α} (h : RdL el sz w (.slice A n c) l) (hk : k ≤ l.length) : RdL el sz w (.slice A k c) (l.take k) := by
  obtain ⟨A', c', h1, h2, h3⟩ := h
  cases h1
  have hl : (l.take k).length = k := by rw [List.length_take]; omega
  refine ⟨A, c, by rw [hl], by omega, fun i a hi => ?_⟩
  rw [List.getElem?_take] at hi
  split at hi
  · exact h3 i a hi
  · cases hi
theorem Chunk.one_ {α : Type} {el : World → List Value → α → Prop} {sz : Nat} {w : World} (ho : ∀ cs a, el w cs a → ∀ u ∈ cs, u.oneCell' = true) : ∀ {l : List α} {xs : List Value}, Chunk el sz w xs l → ∀ u ∈ xs, u.oneCell' = true
  | [], xs, h => by unfold Chunk at h; subst h; simp
  | a :: l, xs, h => by
    obtain ⟨cs, r, rfl, h1, h2, h3⟩ := h
    intro u hu
    rcases List.mem_append.1 hu with hu | hu
    · exact ho _ _ h2 u hu
    · exact Chunk.one_ ho h3 u hu
/-- What an append of it wants. -/
theorem RdL.src {α : Type} {el : World → List Value → α → Prop} {sz : Nat} {w : World} {A : Option Addr} {n c : Nat} {l : List α} (h : RdL el sz w (.slice A n c) l) :
    ∃ news, Chunk el sz w news l ∧ n = l.length ∧ (0 < n → ∃ ad, A = some ad ∧ ∀ j u, news[j]? = some u → w.cell? (ad.add j) = some u) := by
  have hn : n = l.length := by obtain ⟨_, _, h1, _⟩ := h; cases h1; rfl
  have key : ∀ k, k ≤ l.length → ∃ news, Chunk el sz w news (l.take k) ∧ ∀ j u, news[j]? = some u → ∃ b off, A = some ⟨b, off, none⟩ ∧ w.cell? ⟨b, off + j, none⟩ = some u := by
    intro k
    induction k with
    | zero => intro _; exact ⟨[], by simp [Chunk], fun j u hu => by simp at hu⟩
    | succ k ih =>
      intro hk
      obtain ⟨news, h1, h2⟩ := ih (by omega)
      obtain ⟨a, ha⟩ : ∃ a, l[k]? = some a := ⟨l[k], List.getElem?_eq_getElem (by omega)⟩
      obtain ⟨b, off, cs, rfl, hb, he, hl, hc⟩ := h.at_ ha
      refine ⟨news ++ cs, ?_, fun j u hu => ?_⟩
      · rw [List.take_add_one, ha]; exact Chunk.append (Chunk.one he hl) h1
      · have hlen := h1.len
        rw [List.length_take, Nat.min_eq_left (by omega)] at hlen
        rcases Nat.lt_or_ge j news.length with hj | hj
        · rw [List.getElem?_append_left hj] at hu; exact h2 j u hu
        · rw [List.getElem?_append_right hj] at hu
          have hj2 : j - news.length < sz := by
            rcases Nat.lt_or_ge (j - news.length) sz with h | h
            · exact h
            · rw [List.getElem?_eq_none (by omega)] at hu; cases hu
          refine ⟨b, off, rfl, ?_⟩
          rw [← hu, ← hc _ hj2]
          congr 2; omega
  obtain ⟨news, h1, h2⟩ := key l.length (Nat.le_refl _)
  rw [List.take_length] at h1
  refine ⟨news, h1, hn, fun hp => ?_⟩
  obtain ⟨a, ha⟩ : ∃ a, l[0]? = some a := ⟨l[0], List.getElem?_eq_getElem (by omega)⟩
  obtain ⟨b, off, cs, rfl, _⟩ := h.at_ ha
  refine ⟨_, rfl, fun j u hu => ?_⟩
  obtain ⟨b', off', e, hc⟩ := h2 j u hu
  cases e
  rw [← hc]; unfold Addr.add; split <;> simp_all
end Go.Proofs.Ytgonekmmbeedeaa
