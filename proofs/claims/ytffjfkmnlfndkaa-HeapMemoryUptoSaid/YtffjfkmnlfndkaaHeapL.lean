/-
  Package heap in plain words: runs of free cells, blocks, what cells lead to. No condition.
-/
import Derived.Test.YtffjfkmnlfndkaaCell
namespace Go.Proofs.Ytffjfkmnlfndkaa
set_option linter.unusedVariables false

def sz (S : List Int) (j : Nat) : Int := S.getD j 0
theorem sz_of {S : List Int} {j : Nat} {s : Int} (h : S[j]? = some s) : sz S j = s := by simp [sz, List.getD, h]
theorem sz_at {S : List Int} {j : Nat} (h : j < S.length) : S[j]? = some (sz S j) := by simp [sz, List.getD, List.getElem?_eq_getElem h]
theorem sz_out {S : List Int} {j : Nat} (h : S.length ≤ j) : sz S j = 0 := by simp [sz, List.getD, List.getElem?_eq_none h]
/-- Blocks lie apart and within the room. -/
def SoundS (S : List Int) : Prop := ∀ q, q < S.length → 0 ≤ sz S q ∧ (q : Int) + sz S q ≤ S.length ∧ ∀ j, q < j → (j : Int) < q + sz S q → sz S j = 0
def findGoS (S : List Int) (n : Int) : Nat → Nat → Nat → Option Nat
  | 0, _, _ => none
  | f + 1, fr, p => if p < S.length then (if 0 < sz S p then findGoS S n f (p + (sz S p).toNat) (p + (sz S p).toNat) else if (p : Int) + 1 - fr = n then some fr else findGoS S n f fr (p + 1)) else none
/-- n cells stand free from k on, and k is in no block. -/
def Gap (S : List Int) (n : Int) (k : Nat) : Prop := (∀ q, k ≤ q → (q : Int) < k + n → sz S q = 0) ∧ (∀ q, q < k → (q : Int) + sz S q ≤ k) ∧ (k : Int) + n ≤ S.length
theorem sound_lt {S : List Int} {q : Nat} (h : 0 < sz S q) : q < S.length := by
  rcases Nat.lt_or_ge q S.length with h1 | h1
  · exact h1
  · rw [sz_out h1] at h; omega
theorem find_go (S : List Int) (n : Int) (hs : SoundS S) (hn : 1 ≤ n) : ∀ (f fr p : Nat), S.length + 1 ≤ f + p → fr ≤ p → p ≤ S.length → (p : Int) - fr < n → (∀ q, fr ≤ q → q < p → sz S q = 0) → (∀ q, q < fr → (q : Int) + sz S q ≤ fr) → (∀ k, k < fr → ¬ Gap S n k) →
    (∀ k, findGoS S n f fr p = some k → Gap S n k ∧ ∀ k', k' < k → ¬ Gap S n k') ∧ (findGoS S n f fr p = none → ∀ k, ¬ Gap S n k)
  | 0, fr, p, h1, h2, h3, _, _, _, _ => by omega
  | f + 1, fr, p, h1, h2, h3, h4, h5, h6, h7 => by
    have hmid : ∀ k, fr ≤ k → k ≤ p → (∀ q, q = p → 0 < sz S q ∨ S.length ≤ q) → ¬ Gap S n k := by
      intro k g1 g2 g3 ⟨e1, _, e3⟩
      rcases g3 p rfl with g | g
      · have := e1 p g2
        omega
      · omega
    unfold findGoS
    by_cases hp : p < S.length
    · rw [if_pos hp]
      obtain ⟨s0, s1, s2⟩ := hs p hp
      by_cases h0 : 0 < sz S p
      · rw [if_pos h0]
        have e : ((p + (sz S p).toNat : Nat) : Int) = p + sz S p := by omega
        refine find_go S n hs hn f _ _ (by omega) (Nat.le_refl _) (by omega) (by omega) (fun q a b => by omega) (fun q hq => ?_) (fun k hk => ?_)
        · rcases Nat.lt_or_ge q fr with a | a
          · have := h6 q a; omega
          · rcases Nat.lt_or_ge q p with b | b
            · have := h5 q a b; omega
            · rcases Nat.lt_or_ge p q with c | c
              · have := s2 q c (by omega); omega
              · have : q = p := by omega
                subst this; omega
        · rcases Nat.lt_or_ge k fr with a | a
          · exact h7 k a
          · rcases Nat.lt_or_ge p k with b | b
            · intro g
              have := g.2.1 p b
              omega
            · exact hmid k a b (fun q hq => by subst hq; exact .inl h0)
      · rw [if_neg h0]
        have z : sz S p = 0 := by omega
        have h5' : ∀ q, fr ≤ q → q < p + 1 → sz S q = 0 := fun q a b => by
          rcases Nat.lt_or_ge q p with c | c
          · exact h5 q a c
          · have : q = p := by omega
            subst this; exact z
        by_cases he : (p : Int) + 1 - fr = n
        · rw [if_pos he]
          refine ⟨fun k hk => ?_, fun h => by cases h⟩
          cases hk
          exact ⟨⟨fun q a b => h5' q a (by omega), h6, by omega⟩, h7⟩
        · rw [if_neg he]
          exact find_go S n hs hn f fr (p + 1) (by omega) (by omega) (by omega) (by omega) h5' h6 h7
    · rw [if_neg hp]
      refine ⟨fun k h => (by cases h), fun _ k => ?_⟩
      rcases Nat.lt_or_ge k fr with a | a
      · exact h7 k a
      · intro g
        have := g.2.2
        omega
theorem find_some {S : List Int} {n : Int} {k : Nat} (hs : SoundS S) (hn : 1 ≤ n) (h : findGoS S n (S.length + 1) 0 0 = some k) : Gap S n k ∧ ∀ k', k' < k → ¬ Gap S n k' :=
  (find_go S n hs hn _ 0 0 (by omega) (by omega) (by omega) (by omega) (fun q a b => by omega) (fun q a => by omega) (fun k a => by omega)).1 k h
theorem find_none {S : List Int} {n : Int} (hs : SoundS S) (hn : 1 ≤ n) (h : findGoS S n (S.length + 1) 0 0 = none) : ∀ k, ¬ Gap S n k :=
  (find_go S n hs hn _ 0 0 (by omega) (by omega) (by omega) (by omega) (fun q a b => by omega) (fun q a => by omega) (fun k a => by omega)).2 h
theorem sz_set {S : List Int} {k : Nat} (hk : k < S.length) (v : Int) (q : Nat) : sz (S.set k v) q = if q = k then v else sz S q := by
  unfold sz List.getD
  rw [List.getElem?_set]
  by_cases h : k = q
  · subst h; simp [hk]
  · rw [if_neg h, if_neg (fun e => h e.symm)]
theorem sound_alloc {S : List Int} {n : Int} {k : Nat} (hs : SoundS S) (hn : 1 ≤ n) (hg : Gap S n k) : SoundS (S.set k n) := by
  obtain ⟨g1, g2, g3⟩ := hg
  have hk : k < S.length := by omega
  intro q hq
  rw [List.length_set] at hq ⊢
  rw [sz_set hk]
  by_cases h : q = k
  · subst h
    rw [if_pos rfl]
    refine ⟨by omega, g3, fun j h1 h2 => ?_⟩
    rw [sz_set hk, if_neg (by omega)]
    exact g1 j (by omega) h2
  · rw [if_neg h]
    obtain ⟨s0, s1, s2⟩ := hs q hq
    refine ⟨s0, s1, fun j h1 h2 => ?_⟩
    rw [sz_set hk]
    by_cases hj : j = k
    · subst hj
      have := g2 q h1
      omega
    · rw [if_neg hj]; exact s2 j h1 h2
theorem sound_new (n : Nat) : SoundS (List.replicate n 0) := by
  intro q hq
  have z : ∀ j, sz (List.replicate n 0) j = 0 := fun j => by
    unfold sz List.getD
    rw [List.getElem?_replicate]; split <;> rfl
  rw [List.length_replicate] at hq ⊢
  rw [z]
  exact ⟨by omega, by omega, fun j _ _ => z j⟩
/-- Some blocks are let go. -/
theorem sound_less {S S' : List Int} (hs : SoundS S) (hl : S'.length = S.length) (h : ∀ q, sz S' q = sz S q ∨ sz S' q = 0) : SoundS S' := by
  intro q hq
  rw [hl] at hq ⊢
  obtain ⟨s0, s1, s2⟩ := hs q hq
  rcases h q with e | e
  · rw [e]
    refine ⟨s0, s1, fun j h1 h2 => ?_⟩
    rcases h j with e2 | e2
    · rw [e2]; exact s2 j h1 h2
    · exact e2
  · rw [e]
    exact ⟨by omega, by omega, fun j h1 h2 => by omega⟩
/-! ### blocks -/
structure BlockM where
  pos : Nat
  shape : Int
  cells : List CellM
def blkAt (S T : List Int) (C : List CellM) (q : Nat) : Option BlockM := if 0 < sz S q then some ⟨q, sz T q, (C.drop (q + 1)).take ((sz S q).toNat - 1)⟩ else none
def blocksM (S T : List Int) (C : List CellM) : List BlockM := (List.range S.length).filterMap (blkAt S T C)
theorem blk_some {S T : List Int} {C : List CellM} {q : Nat} {b : BlockM} (h : blkAt S T C q = some b) : 0 < sz S q ∧ b = ⟨q, sz T q, (C.drop (q + 1)).take ((sz S q).toNat - 1)⟩ := by
  unfold blkAt at h
  split at h
  · rename_i h0; exact ⟨h0, (Option.some.inj h).symm⟩
  · cases h
theorem blk_mem {S T : List Int} {C : List CellM} {b : BlockM} (h : b ∈ blocksM S T C) : 0 < sz S b.pos ∧ b = ⟨b.pos, sz T b.pos, (C.drop (b.pos + 1)).take ((sz S b.pos).toNat - 1)⟩ := by
  obtain ⟨q, _, h1⟩ := List.mem_filterMap.1 h
  obtain ⟨h2, h3⟩ := blk_some h1
  have : b.pos = q := by rw [h3]
  rw [this]; exact ⟨h2, h3⟩
theorem blk_in {S T : List Int} {C : List CellM} {q : Nat} (h : 0 < sz S q) : (⟨q, sz T q, (C.drop (q + 1)).take ((sz S q).toNat - 1)⟩ : BlockM) ∈ blocksM S T C :=
  List.mem_filterMap.2 ⟨q, List.mem_range.2 (sound_lt h), by unfold blkAt; rw [if_pos h]⟩
theorem blk_len {S : List Int} (hs : SoundS S) {C : List CellM} (hC : C.length = S.length) {q : Nat} (h : 0 < sz S q) : (((C.drop (q + 1)).take ((sz S q).toNat - 1)).length : Int) = sz S q - 1 := by
  have hq := sound_lt h
  obtain ⟨_, s1, _⟩ := hs q hq
  rw [List.length_take, List.length_drop]; omega
/-- The list of blocks, as it goes on from lo. -/
def Tile (S : List Int) : Nat → List BlockM → Prop
  | lo, [] => lo ≤ S.length ∧ ∀ q, lo ≤ q → sz S q = 0
  | lo, b :: r => lo ≤ b.pos ∧ b.pos < S.length ∧ 0 < sz S b.pos ∧ (b.cells.length : Int) = sz S b.pos - 1 ∧ (∀ q, lo ≤ q → q < b.pos → sz S q = 0) ∧ Tile S (b.pos + 1 + b.cells.length) r
theorem Tile.down {S : List Int} {lo : Nat} (h0 : sz S lo = 0) : ∀ {l : List BlockM}, Tile S (lo + 1) l → Tile S lo l
  | [], h => ⟨by have := h.1; omega, fun q hq => by
      rcases Nat.lt_or_ge lo q with a | a
      · exact h.2 q a
      · have : q = lo := by omega
        subst this; exact h0⟩
  | b :: r, ⟨h1, h2, h3, h4, h5, h6⟩ => ⟨by omega, h2, h3, h4, fun q a c => by
      rcases Nat.lt_or_ge lo q with d | d
      · exact h5 q d c
      · have : q = lo := by omega
        subst this; exact h0, h6⟩
theorem skip_zeros {S T : List Int} {C : List CellM} (a : Nat) : ∀ (d m : Nat), (∀ q, a ≤ q → q < a + d → sz S q = 0) → (List.range' a (d + m)).filterMap (blkAt S T C) = (List.range' (a + d) m).filterMap (blkAt S T C) := by
  intro d m h
  rw [← List.range'_append_1, List.filterMap_append]
  have : (List.range' a d).filterMap (blkAt S T C) = [] := by
    rw [List.filterMap_eq_nil_iff]
    intro q hq
    obtain ⟨i, hi, rfl⟩ := List.mem_range'.1 hq
    unfold blkAt
    rw [if_neg (by have := h (a + 1 * i) (by omega) (by omega); omega)]
  rw [this, List.nil_append]
theorem tile_from {S T : List Int} {C : List CellM} (hs : SoundS S) (hC : C.length = S.length) : ∀ (m lo : Nat), lo + m = S.length → Tile S lo ((List.range' lo m).filterMap (blkAt S T C)) := by
  intro m
  induction m using Nat.strongRecOn with
  | _ m ih =>
    intro lo hlo
    cases m with
    | zero =>
      exact ⟨by omega, fun q hq => sz_out (by omega)⟩
    | succ m =>
      rw [List.range'_succ, List.filterMap_cons]
      obtain ⟨s0, s1, s2⟩ := hs lo (by omega)
      by_cases h0 : 0 < sz S lo
      · have e : blkAt S T C lo = some ⟨lo, sz T lo, (C.drop (lo + 1)).take ((sz S lo).toNat - 1)⟩ := by unfold blkAt; rw [if_pos h0]
        rw [e]
        have hl := blk_len hs hC h0
        have hm : m = ((sz S lo).toNat - 1) + (m - ((sz S lo).toNat - 1)) := by omega
        refine ⟨Nat.le_refl _, (by show lo < S.length; omega), h0, hl, fun q a b => absurd b (Nat.not_lt.2 a), ?_⟩
        dsimp only at hl ⊢
        rw [hm, skip_zeros (lo + 1) _ _ (fun q a b => s2 q (by omega) (by omega))]
        have e2 : lo + 1 + ((C.drop (lo + 1)).take ((sz S lo).toNat - 1)).length = lo + 1 + ((sz S lo).toNat - 1) := by omega
        rw [e2]
        exact ih _ (by omega) _ (by omega)
      · have e : blkAt S T C lo = none := by unfold blkAt; rw [if_neg h0]
        rw [e]
        exact Tile.down (by omega) (ih m (by omega) (lo + 1) (by omega))
theorem tile_all {S T : List Int} {C : List CellM} (hs : SoundS S) (hC : C.length = S.length) : Tile S 0 (blocksM S T C) := by
  unfold blocksM
  rw [List.range_eq_range']
  exact tile_from hs hC _ _ (by omega)
theorem Tile.le {S : List Int} : ∀ {l : List BlockM} {lo : Nat}, Tile S lo l → lo ≤ S.length
  | [], _, h => h.1
  | b :: r, _, h => by have := h.1; have := h.2.1; omega
/-- The first gap, as the list of blocks tells it. -/
def wantM (n : Int) (room : Nat) : Nat → List BlockM → Option Nat
  | fr, [] => if n ≤ (room : Int) - fr then some fr else none
  | fr, b :: r => if n ≤ (b.pos : Int) - fr then some fr else wantM n room (b.pos + 1 + b.cells.length) r
theorem want_go {S : List Int} {n : Int} (hs : SoundS S) (hn : 1 ≤ n) : ∀ (l : List BlockM) (fr : Nat), Tile S fr l → (∀ q, q < fr → (q : Int) + sz S q ≤ fr) → (∀ k, k < fr → ¬ Gap S n k) →
    (∀ k, wantM n S.length fr l = some k → Gap S n k ∧ ∀ k', k' < k → ¬ Gap S n k') ∧ (wantM n S.length fr l = none → ∀ k, ¬ Gap S n k)
  | [], fr, ht, h6, h7 => by
    obtain ⟨t1, t2⟩ := ht
    unfold wantM
    by_cases h : n ≤ (S.length : Int) - fr
    · rw [if_pos h]
      refine ⟨fun k hk => ?_, fun h => by cases h⟩
      cases hk
      exact ⟨⟨fun q a b => t2 q a, h6, by omega⟩, h7⟩
    · rw [if_neg h]
      refine ⟨fun k h => (by cases h), fun _ k => ?_⟩
      rcases Nat.lt_or_ge k fr with a | a
      · exact h7 k a
      · intro g
        have := g.2.2
        omega
  | b :: r, fr, ht, h6, h7 => by
    obtain ⟨t1, t2, t3, t4, t5, t6⟩ := ht
    obtain ⟨s0, s1, s2⟩ := hs b.pos t2
    unfold wantM
    by_cases h : n ≤ (b.pos : Int) - fr
    · rw [if_pos h]
      refine ⟨fun k hk => ?_, fun h => by cases h⟩
      cases hk
      exact ⟨⟨fun q a c => t5 q a (by omega), h6, by omega⟩, h7⟩
    · rw [if_neg h]
      refine want_go hs hn r _ t6 (fun q hq => ?_) (fun k hk => ?_)
      · rcases Nat.lt_or_ge q fr with a | a
        · have := h6 q a; omega
        · rcases Nat.lt_or_ge q b.pos with c | c
          · have := t5 q a c; omega
          · rcases Nat.lt_or_ge b.pos q with d | d
            · have := s2 q d (by omega); omega
            · have : q = b.pos := by omega
              subst this; omega
      · rcases Nat.lt_or_ge k fr with a | a
        · exact h7 k a
        · intro g
          rcases Nat.lt_or_ge b.pos k with c | c
          · have := g.2.1 b.pos c
            omega
          · have := g.1 b.pos c
            have := g.2.2
            omega
theorem want_find {S T : List Int} {C : List CellM} {n : Int} (hs : SoundS S) (hC : C.length = S.length) (hn : 1 ≤ n) : wantM n S.length 0 (blocksM S T C) = findGoS S n (S.length + 1) 0 0 := by
  have hw := want_go hs hn (blocksM S T C) 0 (tile_all hs hC) (fun q a => by omega) (fun k a => by omega)
  cases h1 : wantM n S.length 0 (blocksM S T C) with
  | none =>
    cases h2 : findGoS S n (S.length + 1) 0 0 with
    | none => rfl
    | some k => exact absurd (find_some hs hn h2).1 (hw.2 h1 k)
  | some k =>
    cases h2 : findGoS S n (S.length + 1) 0 0 with
    | none => exact absurd (hw.1 k h1).1 (find_none hs hn h2 k)
    | some j =>
      obtain ⟨a1, a2⟩ := hw.1 k h1
      obtain ⟨b1, b2⟩ := find_some hs hn h2
      rcases Nat.lt_trichotomy k j with c | c | c
      · exact absurd a1 (b2 k c)
      · rw [c]
      · exact absurd b1 (a2 j c)
/-! ### a cell is put -/
theorem fm_congr {α β : Type} {f g : α → Option β} : ∀ {l : List α}, (∀ x ∈ l, f x = g x) → l.filterMap f = l.filterMap g
  | [], _ => rfl
  | a :: l, h => by
    rw [List.filterMap_cons, List.filterMap_cons, h a (by simp), fm_congr fun x hx => h x (by simp [hx])]
theorem blocks_set {S T : List Int} {C : List CellM} (hs : SoundS S) (hC : C.length = S.length) {k i : Nat} (hk : 0 < sz S k) (hi : (i : Int) < sz S k - 1) (c : CellM) :
    blocksM S T (C.set (k + 1 + i) c) = (blocksM S T C).map fun b => if b.pos = k then { b with cells := b.cells.set i c } else b := by
  unfold blocksM
  rw [List.map_filterMap]
  refine fm_congr fun q hq => ?_
  unfold blkAt
  by_cases h0 : 0 < sz S q
  · rw [if_pos h0, if_pos h0, Option.map_some]
    congr 1
    have hq := sound_lt h0
    obtain ⟨_, s1, s2⟩ := hs q hq
    by_cases e : q = k
    · subst e
      rw [if_pos rfl]
      congr 1
      rw [List.drop_set, if_neg (by omega), List.take_set]
      congr 1; omega
    · rw [if_neg e]
      congr 1
      obtain ⟨_, k1, k2⟩ := hs k (sound_lt hk)
      rw [List.drop_set]
      split
      · rfl
      · rename_i hge
        refine List.take_set_of_le ?_
        rcases Nat.lt_or_ge q k with a | a
        · have : ¬ ((k : Int) < q + sz S q) := fun hh => by have := s2 k a hh; omega
          omega
        · have : ¬ ((q : Int) < k + sz S k) := fun hh => by have := k2 q (by omega) hh; omega
          omega
  · rw [if_neg h0, if_neg h0]; rfl
/-! ### what cells lead to -/
def cellsOf (S : List Int) (C : List CellM) (k : Nat) : List CellM := (C.drop (k + 1)).take ((sz S k).toNat - 1)
/-- A cell leads to the block at k. -/
def Ref (S : List Int) (c : CellM) (k : Nat) : Prop := c.tag = 6 ∧ c.n = (k : Int) ∧ 0 < sz S k
inductive Reach (S : List Int) (C roots : List CellM) : Nat → Prop
  | root {c : CellM} {k : Nat} : c ∈ roots → Ref S c k → Reach S C roots k
  | step {c : CellM} {j k : Nat} : Reach S C roots j → c ∈ cellsOf S C j → Ref S c k → Reach S C roots k
theorem Reach.pos {S : List Int} {C roots : List CellM} {k : Nat} (h : Reach S C roots k) : 0 < sz S k := by
  cases h with
  | root _ h => exact h.2.2
  | step _ _ h => exact h.2.2
/-- What a list of work and what was seen tell, while it goes on. -/
structure Marked (S : List Int) (C roots work : List CellM) (seen : Nat → Prop) : Prop where
  real : ∀ k, seen k → Reach S C roots k
  work_ : ∀ c ∈ work, ∀ k, Ref S c k → Reach S C roots k
  roots_ : ∀ c ∈ roots, ∀ k, Ref S c k → seen k ∨ c ∈ work
  cells_ : ∀ j, seen j → ∀ c ∈ cellsOf S C j, ∀ k, Ref S c k → seen k ∨ c ∈ work
theorem Marked.start (S : List Int) (C roots : List CellM) : Marked S C roots roots (fun _ => False) :=
  ⟨fun _ h => h.elim, fun c hc k hr => .root hc hr, fun c hc k hr => .inr hc, fun _ h => h.elim⟩
theorem Marked.done {S : List Int} {C roots : List CellM} {seen : Nat → Prop} (h : Marked S C roots [] seen) (k : Nat) : seen k ↔ Reach S C roots k := by
  refine ⟨h.real k, fun hr => ?_⟩
  induction hr with
  | root hc hr => exact (h.roots_ _ hc _ hr).resolve_right (by simp)
  | step _ hc hr ih => exact (h.cells_ _ ih _ hc _ hr).resolve_right (by simp)
/-- The last of the work leads nowhere, or to what was seen. -/
theorem Marked.pop {S : List Int} {C roots work : List CellM} {c : CellM} {seen : Nat → Prop} (h : Marked S C roots (work ++ [c]) seen) (hc : ∀ k, Ref S c k → seen k) : Marked S C roots work seen := by
  refine ⟨h.real, fun d hd => h.work_ d (by simp [hd]), fun d hd k hr => ?_, fun j hj d hd k hr => ?_⟩
  · rcases h.roots_ d hd k hr with g | g
    · exact .inl g
    · rcases List.mem_append.1 g with g | g
      · exact .inr g
      · have := List.mem_singleton.1 g
        subst this; exact .inl (hc k hr)
  · rcases h.cells_ j hj d hd k hr with g | g
    · exact .inl g
    · rcases List.mem_append.1 g with g | g
      · exact .inr g
      · have := List.mem_singleton.1 g
        subst this; exact .inl (hc k hr)
/-- It leads to a block that was not seen. -/
theorem Marked.push {S : List Int} {C roots work : List CellM} {c : CellM} {k : Nat} {seen seen' : Nat → Prop} (h : Marked S C roots (work ++ [c]) seen) (hc : Ref S c k) (hs : ∀ j, seen' j ↔ (seen j ∨ j = k)) : Marked S C roots (work ++ cellsOf S C k) seen' := by
  have hk : Reach S C roots k := h.work_ c (by simp) k hc
  have key : ∀ d j, Ref S d j → (seen j ∨ d ∈ work ++ [c]) → seen' j ∨ d ∈ work ++ cellsOf S C k := by
    intro d j hr hd
    rcases hd with g | g
    · exact .inl ((hs j).2 (.inl g))
    · rcases List.mem_append.1 g with g | g
      · exact .inr (List.mem_append_left _ g)
      · have := List.mem_singleton.1 g
        subst this
        refine .inl ((hs j).2 (.inr ?_))
        have a := hr.2.1; have b := hc.2.1
        omega
  refine ⟨fun j hj => ?_, fun d hd j hr => ?_, fun d hd j hr => key d j hr (h.roots_ d hd j hr), fun i hi d hd j hr => ?_⟩
  · rcases (hs j).1 hj with g | g
    · exact h.real j g
    · subst g; exact hk
  · rcases List.mem_append.1 hd with g | g
    · exact h.work_ d (by simp [g]) j hr
    · exact .step hk g hr
  · rcases (hs i).1 hi with g | g
    · exact key d j hr (h.cells_ i g d hd j hr)
    · subst g; exact .inr (List.mem_append_right _ hd)
/-- Where the blocks that are led to stay as they are, they are led to still. -/
theorem reach_less {S S' : List Int} {C roots : List CellM} (h : ∀ k, Reach S C roots k → sz S' k = sz S k) (h2 : ∀ k, sz S' k = sz S k ∨ sz S' k = 0) (k : Nat) : Reach S' C roots k ↔ Reach S C roots k := by
  have r1 : ∀ c k, Ref S' c k → Ref S c k := fun c k hr => ⟨hr.1, hr.2.1, by
    rcases h2 k with e | e
    · rw [← e]; exact hr.2.2
    · have := hr.2.2; omega⟩
  constructor
  · intro hr
    induction hr with
    | root hc hr => exact .root hc (r1 _ _ hr)
    | step _ hc hr ih => exact .step ih (by unfold cellsOf at hc ⊢; rw [h _ ih] at hc; exact hc) (r1 _ _ hr)
  · intro hr
    induction hr with
    | root hc hr =>
      have := h _ (.root hc hr)
      exact .root hc ⟨hr.1, hr.2.1, by rw [this]; exact hr.2.2⟩
    | step hj hc hr ih =>
      have := h _ (.step hj hc hr)
      exact .step ih (by unfold cellsOf at hc ⊢; rw [h _ hj]; exact hc) ⟨hr.1, hr.2.1, by rw [this]; exact hr.2.2⟩
/-- The blocks that stay. -/
theorem blocks_less {S S' T T' : List Int} {C : List CellM} (K : Nat → Bool) (hl : S'.length = S.length) (h : ∀ q, sz S' q = if K q then sz S q else 0) (hT : ∀ q, K q = true → sz T' q = sz T q) : blocksM S' T' C = (blocksM S T C).filter fun b => K b.pos := by
  unfold blocksM
  rw [List.filter_filterMap, hl]
  refine fm_congr fun q hq => ?_
  unfold blkAt
  rw [h q]
  cases hk : K q with
  | true =>
    rw [if_pos rfl]
    by_cases h0 : 0 < sz S q
    · rw [if_pos h0, if_pos h0, Option.filter_some, if_pos hk, hT q hk]
    · rw [if_neg h0, if_neg h0]; rfl
  | false =>
    by_cases h0 : 0 < sz S q
    · have e : ¬ (0 < (if false = true then sz S q else 0)) := by simp
      rw [if_neg e, if_pos h0, Option.filter_some, if_neg (by simp [hk])]
    · simp [h0]
end Go.Proofs.Ytffjfkmnlfndkaa
