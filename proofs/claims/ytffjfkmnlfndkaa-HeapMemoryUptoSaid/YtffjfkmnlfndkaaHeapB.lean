/-
  Package heap: Blocks. Condition: the heap has at most 4000 cells.
-/
import Derived.Test.YtffjfkmnlfndkaaHeapW
import Derived.Test.YtffjfkmnlfndkaaRegionT
import Derived.Lib.SliceRun
namespace Go.Proofs.Ytffjfkmnlfndkaa
open Go.RowKit
set_option linter.unusedVariables false

/-- The cells of a Cell, whatever numbers. -/
def CeC (w : World) (cs : List Value) (m : CellM) : Prop := cs = [.int .i64 m.tag, .int .i64 m.n]
theorem CeC.kp : ElKp CeC := fun _ _ _ _ _ h => h
theorem ceC_one : ∀ (w : World) (cs : List Value) (m : CellM), CeC w cs m → ∀ u ∈ cs, u.oneCell' = true := by
  rintro w cs m rfl u hu
  simp at hu; rcases hu with rfl | rfl <;> rfl
def OCells (w : World) (base : Nat) (v : Value) (l : List CellM) : Prop := OwnL CeC 2 24 w base v l
def RdCells (w : World) (v : Value) (l : List CellM) : Prop := RdL CeC 2 w v l
theorem OCells.rd {w : World} {base : Nat} {v : Value} {l : List CellM} (h : OCells w base v l) : RdCells w v l := OwnL.rd h
theorem OCells.kp {w w' : World} {base : Nat} {v : Value} {l : List CellM} (h : OCells w base v l) (hk : Kp w w') : OCells w' base v l := OwnL.kp CeC.kp h hk
theorem OCells.hx {lo hi : Nat} {w w' : World} {v : Value} {l : List CellM} (h : OCells w hi v l) (hk : Hx lo hi w w') : OCells w' hi v l := by
  obtain ⟨xs, h1, h2⟩ := h
  exact ⟨xs, ownsRow_hx h1 hk, Chunk.mono (w := w) (w' := w') (fun _ _ h => h) h2⟩
theorem OCells.base {w : World} {b B : Nat} {v : Value} {l : List CellM} (h : OCells w B v l) (hb : b ≤ B) : OCells w b v l := OwnL.base_ hb h
theorem OCells.form {w : World} {b : Nat} {v : Value} {l : List CellM} (h : OCells w b v l) : ∃ A c, v = .slice A l.length c := by
  obtain ⟨xs, h1, _⟩ := h; exact own_form h1
theorem OCells.grown {w w' : World} {base : Nat} {v : Value} {l : List CellM} {row : Option Nat} (h : OCells w base v l) (hg : w.grownBy w' row) (hr : ∀ g, row = some g → g < base) : OCells w' base v l := by
  obtain ⟨xs, ⟨h1, h2⟩, h3⟩ := h
  refine ⟨xs, ⟨h1, ?_⟩, Chunk.mono (w := w) (w' := w') (fun _ _ h => h) h3⟩
  rcases h2 with h2 | ⟨g, cap, cur, hv, hb, hgg, r⟩
  · exact .inl h2
  · exact .inr ⟨g, cap, cur, hv, hb, by rw [hg.block g (Array.getElem?_eq_some_iff.1 hgg).1 (fun he => by have := hr g he.symm; omega)]; exact hgg, r⟩
theorem rd_cell {w : World} {A : Option Addr} {n c : Nat} {l : List CellM} {i : Nat} {m : CellM} (h : RdCells w (.slice A n c) l) (hi : l[i]? = some m) : ∃ b off, A = some ⟨b, off, none⟩ ∧ b < w.heap.size ∧ w.cell? ⟨b, off + i * 2, none⟩ = some (.int .i64 m.tag) ∧ w.cell? ⟨b, off + i * 2 + 1, none⟩ = some (.int .i64 m.n) := by
  obtain ⟨b, off, cs, g1, g2, g3, _, g4⟩ := RdL.at_ h hi
  obtain rfl := g3
  exact ⟨b, off, g1, g2, g4 0 (by omega), g4 1 (by omega)⟩
set_option maxHeartbeats 1000000 in
theorem clone_cells_cell (A : Option Addr) (n c : Nat) (w : World) (news : List Value) (hl : news.length = n * 2) (hsrc : 0 < n → ∃ ad, A = some ad ∧ ∀ j u, news[j]? = some u → w.cell? (ad.add j) = some u) (h1 : ∀ u ∈ news, u.oneCell' = true) (hb : n * 16 ≤ 140737488355328) :
    Calls Try.prog 43 #[.slice A n c] w fun e w' => (∃ v', e = .returned v' ∧ w'.ownsRow w.heap.size 24 2 v' n news) ∧ Kp w w' := by
  have q22 : ∀ (w : World) (a : Option Addr) (n c n' c' : Nat), (binOp .eql 38 (.slice a n c) (.slice none n' c')).run Try.prog w = .ok (.bool a.isNone) w := fun w a n c n' c' => Lib.run_eql_slice_nil w _ _ a n c n' c' Try.underlying38
  have HS := hid hsrc
  clear hsrc
  cases A with
  | none =>
    have hn : n = 0 := by
      rcases Nat.eq_zero_or_pos n with h | h
      · exact h
      · obtain ⟨_, e, _⟩ := HS.out h; cases e
    subst hn
    obtain rfl : news = [] := List.eq_nil_of_length_eq_zero (by simpa using hl)
    go_enter Try.func43, Try.ntmps43
    go_wp2
    go_ret
    exact ⟨⟨_, rfl, World.ownsRow_nil _ _ _ _⟩, Kp.refl _⟩
  | some ad =>
    have HC : Hid (0 < n → ∃ ad', some ad = some ad' ∧ ∀ j u, news[j]? = some u → (w.alloc (.cells #[] 24)).cell? (ad'.add j) = some u) := hid fun hp => by
      obtain ⟨ad', e, hc⟩ := HS.out hp
      exact ⟨ad', e, fun j u hu => Lib.cell?_alloc_some _ (hc j u hu)⟩
    have HO := hid (World.ownsRow_made w #[] 0 (e := 24) (size := 2) (Nat.le_refl _) (Nat.zero_le _) rfl)
    go_enter Try.func43, Try.ntmps43
    go_wp2_with (at_builtin; go_must (refine app_src elCell rfl (.tmp 5) (.tmp 6) rfl HO.out rfl news _ _ _ rfl hl HC.out h1 (by unfold maxLen; omega) (by omega) (by simp) ?_); intro v1 w1 hown1 hg1 hm1 hb1)
    go_ret
    exact ⟨⟨_, rfl, by simpa using hown1⟩, Below.trans ((Kp.refl _).alloc _) hb1⟩
theorem clone_cells (v : Value) (l : List CellM) (w : World) (h : RdCells w v l) (hb : l.length * 16 ≤ 140737488355328) : Calls Try.prog 43 #[v] w fun e w' => (∃ v', e = .returned v' ∧ OCells w' w.heap.size v' l) ∧ Kp w w' := by
  obtain ⟨A, c, rfl, hc⟩ := RdL.form h
  obtain ⟨news, h1, h2, h3⟩ := RdL.src h
  refine (clone_cells_cell A l.length c w news h1.len h3 (Chunk.one_ (ceC_one w) h1) hb).mono ?_
  rintro e w' ⟨⟨v', rfl, ho⟩, hk⟩
  exact ⟨⟨v', rfl, news, ho, Chunk.mono (w := w) (w' := w') (fun _ _ h => h) h1⟩, hk⟩
/-- A piece of the heap's cells reads as a list. -/
theorem HeapAt.piece {w : World} {hp gc gs gh : Nat} {H : HeapM} (h : HeapAt w hp gc gs gh H) (k n c : Nat) (hk : k + n ≤ H.cells.length) (hc : n ≤ c) : RdCells w (.slice (some ⟨gc, k * 2, none⟩) n c) ((H.cells.drop k).take n) := by
  have hl : ((H.cells.drop k).take n).length = n := by rw [List.length_take, List.length_drop]; omega
  refine ⟨_, c, by rw [hl], by omega, fun i m hi => ⟨gc, k * 2, _, rfl, (Array.getElem?_eq_some_iff.1 h.cell).1, rfl, rfl, fun j hj => ?_⟩⟩
  have hi2 : H.cells[k + i]? = some m := by
    rw [List.getElem?_take] at hi
    split at hi
    · rw [List.getElem?_drop] at hi; exact hi
    · cases hi
  obtain ⟨q0, q1⟩ := h.ce hi2
  have e : k * 2 + i * 2 + j = (k + i) * 2 + j := by omega
  rw [e]
  have : j = 0 ∨ j = 1 := by omega
  rcases this with rfl | rfl
  · exact q0
  · exact q1
theorem HeapAt.piece_if {w : World} {hp gc gs gh : Nat} {H : HeapM} (h : HeapAt w hp gc gs gh H) (k n m c N : Nat) (hn : n = m) (hk : k + 1 + m ≤ N) (hN : H.cells.length = N) (hc : m ≤ c) : RdCells w (.slice (if N = k + 1 then some ⟨gc, 0, none⟩ else some ⟨gc, (k + 1) * 2, none⟩) n c) ((H.cells.drop (k + 1)).take m) := by
  subst hn
  split
  · have hm : n = 0 := by omega
    subst hm
    exact ⟨_, c, rfl, Nat.zero_le _, fun i a hi => by simp at hi⟩
  · exact h.piece (k + 1) n c (by omega) hc
/-! ### blocks as values -/
def CeB (base : Nat) (w : World) (cs : List Value) (b : BlockM) : Prop := ∃ la, cs = [.int .i64 b.pos, .int .i64 b.shape, la] ∧ OCells w base la b.cells
theorem CeB.kp {base : Nat} : ElKp (CeB base) := fun _ _ _ _ hk ⟨la, h, ho⟩ => ⟨la, h, ho.kp hk⟩
def OBlks (w : World) (base : Nat) (v : Value) (l : List BlockM) : Prop := OwnL (CeB base) 3 40 w base v l
theorem OBlks.kp {w w' : World} {base : Nat} {v : Value} {l : List BlockM} (h : OBlks w base v l) (hk : Kp w w') : OBlks w' base v l := OwnL.kp CeB.kp h hk
theorem OBlks.base {w : World} {b B : Nat} {v : Value} {l : List BlockM} (h : OBlks w B v l) (hb : b ≤ B) : OBlks w b v l := OwnL.base_ hb (OwnL.mono (fun cs a ⟨la, g1, g2⟩ => ⟨la, g1, g2.base hb⟩) h)
theorem OBlks.hx {lo hi : Nat} {w w' : World} {v : Value} {l : List BlockM} (h : OBlks w hi v l) (hk : Hx lo hi w w') : OBlks w' hi v l := by
  obtain ⟨xs, h1, h2⟩ := h
  exact ⟨xs, ownsRow_hx h1 hk, Chunk.mono (w := w) (w' := w') (fun _ _ ⟨la, g1, g2⟩ => ⟨la, g1, g2.hx hk⟩) h2⟩
theorem OBlks.form {w : World} {b : Nat} {v : Value} {l : List BlockM} (h : OBlks w b v l) : ∃ A c, v = .slice A l.length c := by
  obtain ⟨xs, h1, _⟩ := h; exact own_form h1
theorem CeB.touch {base : Nat} {w w' : World} {cs : List Value} {b : BlockM} (h : CeB base w cs b) (ht : Touch 40 w w') : CeB base w' cs b := by
  obtain ⟨la, h1, xs, h2, h3⟩ := h
  exact ⟨la, h1, xs, ownsRow_touch (by decide) h2 ht, Chunk.mono (w := w) (w' := w') (fun _ _ h => h) h3⟩
theorem elBlk : El Try.prog 34 40 (.agg #[.int .i64 0, .int .i64 0, .slice none 0 0]) 3 40 := El.mk_ Try.underlying34 (by kernel_rfl) rfl (by omega)
theorem OBlks.lt {w : World} {base : Nat} {v : Value} {l : List BlockM} (h : OBlks w base v l) : ∀ g, v.ownBlock = some g → base ≤ g ∧ g < w.heap.size := by
  obtain ⟨xs, h1, _⟩ := h; exact fun g hg => h1.lt g hg
/-- The rows of cells of two blocks lie in two blocks of memory. -/
def ApartX (xs : List Value) : Prop := ∀ i j a b g, i < j → xs[i * 3 + 2]? = some a → xs[j * 3 + 2]? = some b → a.ownBlock = some g → b.ownBlock = some g → False
def OBlksA (w : World) (base : Nat) (v : Value) (l : List BlockM) : Prop := ∃ xs, w.ownsRow base 40 3 v l.length xs ∧ Chunk (CeB base) 3 w xs l ∧ ApartX xs
theorem OBlksA.out {w : World} {base : Nat} {v : Value} {l : List BlockM} (h : OBlksA w base v l) : OBlks w base v l := by obtain ⟨xs, h1, h2, _⟩ := h; exact ⟨xs, h1, h2⟩
theorem OBlksA.nil (w : World) (base : Nat) : OBlksA w base (.slice none 0 0) [] := ⟨[], World.ownsRow_nil _ _ _ _, rfl, fun i j a b g _ h => by simp at h⟩
theorem OBlksA.kp {w w' : World} {base : Nat} {v : Value} {l : List BlockM} (h : OBlksA w base v l) (hk : Kp w w') : OBlksA w' base v l := by
  obtain ⟨xs, h1, h2, h3⟩ := h
  exact ⟨xs, ownsRow_keep h1 hk, h2.kp CeB.kp hk, h3⟩
theorem OBlksA.hx {lo hi : Nat} {w w' : World} {v : Value} {l : List BlockM} (h : OBlksA w hi v l) (hk : Hx lo hi w w') : OBlksA w' hi v l := by
  obtain ⟨xs, h1, h2, h3⟩ := h
  exact ⟨xs, ownsRow_hx h1 hk, Chunk.mono (w := w) (w' := w') (fun _ _ ⟨la, g1, g2⟩ => ⟨la, g1, g2.hx hk⟩) h2, h3⟩
theorem OBlksA.form {w : World} {b : Nat} {v : Value} {l : List BlockM} (h : OBlksA w b v l) : ∃ A c, v = .slice A l.length c := h.out.form
theorem chunk_la {w : World} {base : Nat} {xs : List Value} {l : List BlockM} (h : Chunk (CeB base) 3 w xs l) {i : Nat} {a : Value} (ha : xs[i * 3 + 2]? = some a) : ∃ b, l[i]? = some b ∧ OCells w base a b.cells := by
  have hl := h.len
  have hi : i < l.length := by
    have : i * 3 + 2 < xs.length := by
      rcases Nat.lt_or_ge (i * 3 + 2) xs.length with h1 | h1
      · exact h1
      · rw [List.getElem?_eq_none h1] at ha; cases ha
    omega
  obtain ⟨cs, ⟨la, rfl, ho⟩, _, hg⟩ := h.get (List.getElem?_eq_getElem hi)
  have := hg 2 (by omega)
  rw [ha] at this
  have e : a = la := by simpa using this
  exact ⟨_, List.getElem?_eq_getElem hi, by rw [e]; exact ho⟩
theorem ApartX.snoc {w : World} {base : Nat} {xs : List Value} {l : List BlockM} (h : ApartX xs) (hc : Chunk (CeB base) 3 w xs l) {p s la : Value} (hla : ∀ g, la.ownBlock = some g → w.heap.size ≤ g) : ApartX (xs ++ [p, s, la]) := by
  have hl := hc.len
  intro i j a b g hij ha hb hga hgb
  have hj : j * 3 + 2 < l.length * 3 + 3 := by
    rcases Nat.lt_or_ge (j * 3 + 2) (xs ++ [p, s, la]).length with h1 | h1
    · simp at h1; omega
    · rw [List.getElem?_eq_none h1] at hb; cases hb
  rw [List.getElem?_append_left (by omega)] at ha
  rcases Nat.lt_or_ge (j * 3 + 2) xs.length with h1 | h1
  · rw [List.getElem?_append_left h1] at hb
    exact h i j a b g hij ha hb hga hgb
  · rw [List.getElem?_append_right h1] at hb
    have e : j * 3 + 2 - xs.length = 2 := by omega
    rw [e] at hb
    have e2 : la = b := by simpa using hb
    obtain ⟨bb, _, ho⟩ := chunk_la hc ha
    obtain ⟨ys, ho1, _⟩ := ho
    have h3 := (ho1.lt g hga).2
    have h4 := hla g (by rw [e2]; exact hgb)
    omega
theorem blks_succ (S T : List Int) (C : List CellM) (k : Nat) : (List.range (k + 1)).filterMap (blkAt S T C) = (List.range k).filterMap (blkAt S T C) ++ (if 0 < sz S k then [⟨k, sz T k, (C.drop (k + 1)).take ((sz S k).toNat - 1)⟩] else []) := by
  rw [List.range_succ, List.filterMap_append]
  congr 1
  unfold blkAt
  split <;> simp [*]
theorem blks_len (S T : List Int) (C : List CellM) (k : Nat) : ((List.range k).filterMap (blkAt S T C)).length ≤ k := by
  have := List.length_filterMap_le (blkAt S T C) (List.range k)
  simpa using this
set_option maxRecDepth 20000 in
set_option maxHeartbeats 2000000 in
theorem blocks_at (w : World) (hp gc gs gh : Nat) (H : HeapM) (h : HeapAt w hp gc gs gh H) : Calls Try.prog 19 #[.pointer (some ⟨hp, 0, none⟩)] w fun e w' => (∃ v, e = .returned v ∧ OBlksA w' w.heap.size v (blocksM H.sizes H.shapes H.cells)) ∧ Kp w w' := by
  have HH := hid h
  obtain ⟨N, hN⟩ : ∃ N, H.cells.length = N := ⟨_, rfl⟩
  have hle := h.le
  have q0 := h.h1
  rw [hN] at q0 hle
  have HN := hid hN
  have hS : H.sizes.length = N := h.lsz.trans hN
  have hT : H.shapes.length = N := h.lsh.trans hN
  have HS := hid hS; have HT := hid hT
  clear h hN hS hT
  go_enter Try.func19, Try.ntmps19
  go_wp2
  go_loopw [3, 14] (fun v i wr => ∃ k : Nat, k ≤ N ∧ i = .int .i64 k ∧ OBlksA wr w.heap.size v ((List.range k).filterMap (blkAt H.sizes H.shapes H.cells)) ∧ Kp w wr) (fun _ i _ => N - (intOf i).toNat)
  case atStart => exact ⟨0, by omega, rfl, OBlksA.nil _ _, Kp.refl _⟩
  case round =>
    obtain ⟨k, hk, rfl, hown, hkp⟩ := hrel
    have hsz := hkp.le
    have HR := hid (HH.out.kp hkp)
    have HO := hid hown
    have HK := hid hkp
    clear hown hkp
    by_cases hlt : k < N
    · have i1 : (k : Int) < (N : Int) := by omega
      have i0 : (0 : Int) ≤ (k : Int) := by omega
      have hs : H.sizes[k]? = some (sz H.sizes k) := sz_at (by rw [HS.out]; exact hlt)
      have ht : H.shapes[k]? = some (sz H.shapes k) := sz_at (by rw [HT.out]; exact hlt)
      have hfit := HR.out.fit k _ hs
      have hok := HR.out.ok _ (List.mem_of_getElem? hs)
      rw [HN.out] at hfit
      have q1 := HR.out.sz hs
      have HST := hid ht
      obtain ⟨s, hse⟩ : ∃ s, sz H.sizes k = s := ⟨_, rfl⟩
      rw [hse] at q1 hfit hok
      have HSE := hid hse
      clear hs ht hse
      by_cases h0 : 0 < s
      · obtain ⟨m, rfl⟩ : ∃ m : Nat, s = (m : Int) + 1 := ⟨(s - 1).toNat, by omega⟩
        obtain ⟨A, c, rfl⟩ := HO.out.form
        have hbl := blks_len H.sizes H.shapes H.cells k
        obtain ⟨L, hL⟩ : ∃ L, (List.range k).filterMap (blkAt H.sizes H.shapes H.cells) = L := ⟨_, rfl⟩
        rw [hL] at HO hbl ⊢
        have HL := hid hL
        obtain ⟨C, hC⟩ : ∃ C, (H.cells.drop (k + 1)).take m = C := ⟨_, rfl⟩
        have HC := hid hC
        have hCl : C.length = m := by rw [← hC, List.length_take, List.length_drop, HN.out]; omega
        obtain ⟨t, ht⟩ : ∃ t, sz H.shapes k = t := ⟨_, rfl⟩
        rw [ht] at HST
        have HTE := hid ht
        clear hL hC ht
        have e1 : wrap64 ((k : Int) + 1) = (k : Int) + 1 := by unfold wrap64; omega
        have e2 : wrap64 ((k : Int) + ((m : Int) + 1)) = (k : Int) + ((m : Int) + 1) := by unfold wrap64; omega
        have E1 := hid e1; have E2 := hid e2
        clear e1 e2
        go_wp2
        refine wp_region_row 22 [[], [], [], [2], [3], [4], [], [5, 6], [7], [], [9], [10], [11], [], [13], [], [], [15, 16], [12, 14, 17], [18], [1, 8, 19], [20], [0, 21], [22]] (fun u => Kp wr u)
          [fun (y : Value) (u : World) => y = (.slice A L.length c : Value),
           fun (y : Value) (u : World) => y = (.int .i64 k : Value),
           fun (y : Value) (u : World) => y = (.pointer (some ⟨hp, 0, none⟩) : Value),
           fun (y : Value) (u : World) => y = (.pointer (some ⟨hp, 0, none⟩) : Value),
           fun (y : Value) (u : World) => y = (.pointer (some ⟨hp, 2, none⟩) : Value),
           fun (y : Value) (u : World) => y = (.slice (some ⟨gh, 0, none⟩) N N : Value),
           fun (y : Value) (u : World) => y = (.int .i64 k : Value),
           fun (y : Value) (u : World) => y = (.pointer (some ⟨gh, k, none⟩) : Value),
           fun (y : Value) (u : World) => y = (.int .i64 t : Value),
           fun (y : Value) (u : World) => y = (.pointer (some ⟨hp, 0, none⟩) : Value),
           fun (y : Value) (u : World) => y = (.pointer (some ⟨hp, 0, none⟩) : Value),
           fun (y : Value) (u : World) => y = (.pointer (some ⟨hp, 0, none⟩) : Value),
           fun (y : Value) (u : World) => y = (.slice (some ⟨gc, 0, none⟩) N N : Value),
           fun (y : Value) (u : World) => y = (.int .i64 k : Value),
           fun (y : Value) (u : World) => y = (.int .i64 ((k : Int) + 1) : Value),
           fun (y : Value) (u : World) => y = (.int .i64 k : Value),
           fun (y : Value) (u : World) => y = (.int .i64 ((m : Int) + 1) : Value),
           fun (y : Value) (u : World) => y = (.int .i64 ((k : Int) + ((m : Int) + 1)) : Value),
           fun (y : Value) (u : World) => RdCells u y C,
           fun (y : Value) (u : World) => OCells u wr.heap.size y C,
           fun (y : Value) (u : World) => ∃ la, y = .agg #[.int .i64 k, .int .i64 t, la] ∧ OCells u wr.heap.size la C,
           fun (y : Value) (u : World) => ∃ g la, y = .slice (some ⟨g, 0, none⟩) 1 1 ∧ g < u.heap.size ∧ (u.cell? ⟨g, 0, none⟩ = some (.int .i64 k) ∧ u.cell? ⟨g, 1, none⟩ = some (.int .i64 t) ∧ u.cell? ⟨g, 2, none⟩ = some la) ∧ OCells u wr.heap.size la C]
          (by kernel_rfl) (by kernel_rfl) (by kernel_rfl) (by kernel_rfl) (by kernel_rfl) ((Kp.refl _).drew) (fun _ _ hk h => h.trans hk) ⟨fun _ _ _ _ h => h, fun _ _ _ _ h => h, fun _ _ _ _ h => h, fun _ _ _ _ h => h, fun _ _ _ _ h => h, fun _ _ _ _ h => h, fun _ _ _ _ h => h, fun _ _ _ _ h => h, fun _ _ _ _ h => h, fun _ _ _ _ h => h, fun _ _ _ _ h => h, fun _ _ _ _ h => h, fun _ _ _ _ h => h, fun _ _ _ _ h => h, fun _ _ _ _ h => h, fun _ _ _ _ h => h, fun _ _ _ _ h => h, fun _ _ _ _ h => h, fun _ _ _ hk h => RdL.kp CeC.kp h hk, fun _ _ _ hk h => h.kp hk, fun _ _ _ hk ⟨la, h1, h2⟩ => ⟨la, h1, h2.kp hk⟩, fun _ _ _ hk ⟨g, la, h1, h2, ⟨h3, h4, h5⟩, h6⟩ => ⟨g, la, h1, Nat.lt_of_lt_of_le h2 hk.le, ⟨cell_kp hk h2 h3, cell_kp hk h2 h4, cell_kp hk h2 h5⟩, h6.kp hk⟩, trivial⟩ ⟨?sb0, ?sb1, ?sb2, ?sb3, ?sb4, ?sb5, ?sb6, ?sb7, ?sb8, ?sb9, ?sb10, ?sb11, ?sb12, ?sb13, ?sb14, ?sb15, ?sb16, ?sb17, ?sb18, ?sb19, ?sb20, ?sb21, trivial⟩ ?hEb
        case sb0 =>
          intro x u hg hd K hK
          clear hd
          refine ⟨?_⟩
          simp only [List.take_succ_cons, List.take_zero, putsFrom, Act.put, List.setIfInBounds_toArray, List.set_cons_zero, List.set_cons_succ, Nat.reduceAdd] at hK ⊢
          go_simp
          exact hK.out _ _ (Kp.refl _) rfl
        case sb1 =>
          intro x u hg hd K hK
          clear hd
          refine ⟨?_⟩
          simp only [List.take_succ_cons, List.take_zero, putsFrom, Act.put, List.setIfInBounds_toArray, List.set_cons_zero, List.set_cons_succ, Nat.reduceAdd] at hK ⊢
          go_simp
          exact hK.out _ _ (Kp.refl _) rfl
        case sb2 =>
          intro x u hg hd K hK
          clear hd
          refine ⟨?_⟩
          simp only [List.take_succ_cons, List.take_zero, putsFrom, Act.put, List.setIfInBounds_toArray, List.set_cons_zero, List.set_cons_succ, Nat.reduceAdd] at hK ⊢
          go_simp
          exact hK.out _ _ (Kp.refl _) rfl
        case sb3 =>
          intro x u hg hd K hK
          have d2 : (x 2) = .pointer (some ⟨hp, 0, none⟩) := And.left hd
          clear hd
          refine ⟨?_⟩
          simp only [List.take_succ_cons, List.take_zero, putsFrom, Act.put, List.setIfInBounds_toArray, List.set_cons_zero, List.set_cons_succ, Nat.reduceAdd, d2] at hK ⊢
          go_simp
          exact hK.out _ _ (Kp.refl _) rfl
        case sb4 =>
          intro x u hg hd K hK
          have d3 : (x 3) = .pointer (some ⟨hp, 0, none⟩) := And.left hd
          clear hd
          refine ⟨?_⟩
          simp only [List.take_succ_cons, List.take_zero, putsFrom, Act.put, List.setIfInBounds_toArray, List.set_cons_zero, List.set_cons_succ, Nat.reduceAdd, d3] at hK ⊢
          go_simp
          exact hK.out _ _ (Kp.refl _) rfl
        case sb5 =>
          intro x u hg hd K hK
          have d4 : (x 4) = .pointer (some ⟨hp, 2, none⟩) := And.left hd
          clear hd
          have q5 := (HR.out.kp hg).h2
          rw [HN.out] at q5
          refine ⟨?_⟩
          simp only [List.take_succ_cons, List.take_zero, putsFrom, Act.put, List.setIfInBounds_toArray, List.set_cons_zero, List.set_cons_succ, Nat.reduceAdd, d4] at hK ⊢
          go_simp
          exact hK.out _ _ (Kp.refl _) rfl
        case sb6 =>
          intro x u hg hd K hK
          clear hd
          refine ⟨?_⟩
          simp only [List.take_succ_cons, List.take_zero, putsFrom, Act.put, List.setIfInBounds_toArray, List.set_cons_zero, List.set_cons_succ, Nat.reduceAdd] at hK ⊢
          go_simp
          exact hK.out _ _ (Kp.refl _) rfl
        case sb7 =>
          intro x u hg hd K hK
          have d5 : (x 5) = .slice (some ⟨gh, 0, none⟩) N N := And.left hd
          have d6 : (x 6) = .int .i64 k := And.left (And.right hd)
          clear hd
          refine ⟨?_⟩
          simp only [List.take_succ_cons, List.take_zero, putsFrom, Act.put, List.setIfInBounds_toArray, List.set_cons_zero, List.set_cons_succ, Nat.reduceAdd, d5, d6] at hK ⊢
          go_simp
          exact hK.out _ _ (Kp.refl _) rfl
        case sb8 =>
          intro x u hg hd K hK
          have d7 : (x 7) = .pointer (some ⟨gh, k, none⟩) := And.left hd
          clear hd
          have q8 := (HR.out.kp hg).sh HST.out
          refine ⟨?_⟩
          simp only [List.take_succ_cons, List.take_zero, putsFrom, Act.put, List.setIfInBounds_toArray, List.set_cons_zero, List.set_cons_succ, Nat.reduceAdd, d7] at hK ⊢
          go_simp
          exact hK.out _ _ (Kp.refl _) rfl
        case sb9 =>
          intro x u hg hd K hK
          clear hd
          refine ⟨?_⟩
          simp only [List.take_succ_cons, List.take_zero, putsFrom, Act.put, List.setIfInBounds_toArray, List.set_cons_zero, List.set_cons_succ, Nat.reduceAdd] at hK ⊢
          go_simp
          exact hK.out _ _ (Kp.refl _) rfl
        case sb10 =>
          intro x u hg hd K hK
          have d9 : (x 9) = .pointer (some ⟨hp, 0, none⟩) := And.left hd
          clear hd
          refine ⟨?_⟩
          simp only [List.take_succ_cons, List.take_zero, putsFrom, Act.put, List.setIfInBounds_toArray, List.set_cons_zero, List.set_cons_succ, Nat.reduceAdd, d9] at hK ⊢
          go_simp
          exact hK.out _ _ (Kp.refl _) rfl
        case sb11 =>
          intro x u hg hd K hK
          have d10 : (x 10) = .pointer (some ⟨hp, 0, none⟩) := And.left hd
          clear hd
          refine ⟨?_⟩
          simp only [List.take_succ_cons, List.take_zero, putsFrom, Act.put, List.setIfInBounds_toArray, List.set_cons_zero, List.set_cons_succ, Nat.reduceAdd, d10] at hK ⊢
          go_simp
          exact hK.out _ _ (Kp.refl _) rfl
        case sb12 =>
          intro x u hg hd K hK
          have d11 : (x 11) = .pointer (some ⟨hp, 0, none⟩) := And.left hd
          clear hd
          have q12 := (HR.out.kp hg).h0
          rw [HN.out] at q12
          refine ⟨?_⟩
          simp only [List.take_succ_cons, List.take_zero, putsFrom, Act.put, List.setIfInBounds_toArray, List.set_cons_zero, List.set_cons_succ, Nat.reduceAdd, d11] at hK ⊢
          go_simp
          exact hK.out _ _ (Kp.refl _) rfl
        case sb13 =>
          intro x u hg hd K hK
          clear hd
          refine ⟨?_⟩
          simp only [List.take_succ_cons, List.take_zero, putsFrom, Act.put, List.setIfInBounds_toArray, List.set_cons_zero, List.set_cons_succ, Nat.reduceAdd] at hK ⊢
          go_simp
          exact hK.out _ _ (Kp.refl _) rfl
        case sb14 =>
          intro x u hg hd K hK
          have d13 : (x 13) = .int .i64 k := And.left hd
          clear hd
          have e1 : IntKind.i64.wrap ((k : Int) + 1) = (k : Int) + 1 := by rw [IntKind.wrap_i64]; omega
          refine ⟨?_⟩
          simp only [List.take_succ_cons, List.take_zero, putsFrom, Act.put, List.setIfInBounds_toArray, List.set_cons_zero, List.set_cons_succ, Nat.reduceAdd, d13] at hK ⊢
          go_simp
          exact hK.out _ _ (Kp.refl _) rfl
        case sb15 =>
          intro x u hg hd K hK
          clear hd
          refine ⟨?_⟩
          simp only [List.take_succ_cons, List.take_zero, putsFrom, Act.put, List.setIfInBounds_toArray, List.set_cons_zero, List.set_cons_succ, Nat.reduceAdd] at hK ⊢
          go_simp
          exact hK.out _ _ (Kp.refl _) rfl
        case sb16 =>
          intro x u hg hd K hK
          clear hd
          refine ⟨?_⟩
          simp only [List.take_succ_cons, List.take_zero, putsFrom, Act.put, List.setIfInBounds_toArray, List.set_cons_zero, List.set_cons_succ, Nat.reduceAdd] at hK ⊢
          go_simp
          exact hK.out _ _ (Kp.refl _) rfl
        case sb17 =>
          intro x u hg hd K hK
          have d15 : (x 15) = .int .i64 k := And.left hd
          have d16 : (x 16) = .int .i64 ((m : Int) + 1) := And.left (And.right hd)
          clear hd
          have e1 : IntKind.i64.wrap ((k : Int) + ((m : Int) + 1)) = (k : Int) + ((m : Int) + 1) := by rw [IntKind.wrap_i64]; omega
          refine ⟨?_⟩
          simp only [List.take_succ_cons, List.take_zero, putsFrom, Act.put, List.setIfInBounds_toArray, List.set_cons_zero, List.set_cons_succ, Nat.reduceAdd, d15, d16] at hK ⊢
          go_simp
          exact hK.out _ _ (Kp.refl _) rfl
        case sb18 =>
          intro x u hg hd K hK
          have d12 : (x 12) = .slice (some ⟨gc, 0, none⟩) N N := And.left hd
          have d14 : (x 14) = .int .i64 ((k : Int) + 1) := And.left (And.right hd)
          have d17 : (x 17) = .int .i64 ((k : Int) + ((m : Int) + 1)) := And.left (And.right (And.right hd))
          clear hd
          have g0 : (0 : Int) ≤ (k : Int) + 1 := by omega
          have g1 : (k : Int) + 1 ≤ (k : Int) + ((m : Int) + 1) := by omega
          have g2 : (k : Int) + ((m : Int) + 1) ≤ (N : Int) := by omega
          have g4 : ((k : Int) + 1).toNat = k + 1 := by omega
          refine ⟨?_⟩
          simp only [List.take_succ_cons, List.take_zero, putsFrom, Act.put, List.setIfInBounds_toArray, List.set_cons_zero, List.set_cons_succ, Nat.reduceAdd, d12, d14, d17] at hK ⊢
          go_simp
          exact hK.out _ _ (Kp.refl _) (by have := (HR.out.kp hg).piece_if k (((k : Int) + ((m : Int) + 1)).toNat - (k + 1)) m (N - (k + 1)) N (by omega) (by omega) HN.out (by omega); rw [HC.out] at this; exact this)
        case sb19 =>
          intro x u hg hd K hK
          have d18 : RdCells u (x 18) C := And.left hd
          clear hd
          refine ⟨?_⟩
          simp only [List.take_succ_cons, List.take_zero, putsFrom, Act.put, List.setIfInBounds_toArray, List.set_cons_zero, List.set_cons_succ, Nat.reduceAdd] at hK ⊢
          go_simp
          go_at_call 43
          have hc := (clone_cells _ C u d18 (by omega))
          refine hc.mono ?_
          clear hc
          rintro e u' ⟨⟨v', rfl, ho⟩, hk⟩
          dsimp only
          exact hK.out _ _ hk (ho.base hg.le)
        case sb20 =>
          intro x u hg hd K hK
          have d1 : (x 1) = .int .i64 k := And.left hd
          have d8 : (x 8) = .int .i64 t := And.left (And.right hd)
          have d19 : OCells u wr.heap.size (x 19) C := And.left (And.right (And.right hd))
          clear hd
          have ho := d19
          obtain ⟨A3, c3, e19⟩ := d19.form
          rw [hCl] at e19
          refine ⟨?_⟩
          simp only [List.take_succ_cons, List.take_zero, putsFrom, Act.put, List.setIfInBounds_toArray, List.set_cons_zero, List.set_cons_succ, Nat.reduceAdd, d1, d8, e19] at hK ⊢
          go_simp
          exact hK.out _ _ (Kp.refl _) ⟨.slice A3 m c3, rfl, by rw [← e19]; exact ho⟩
        case sb21 =>
          intro x u hg hd K hK
          have d20 : ∃ la, (x 20) = .agg #[.int .i64 k, .int .i64 t, la] ∧ OCells u wr.heap.size la C := And.left hd
          clear hd
          obtain ⟨la, e20, ho⟩ := d20
          obtain ⟨A3, c3, hla⟩ := ho.form
          rw [hCl] at hla
          subst hla
          refine ⟨?_⟩
          simp only [List.take_succ_cons, List.take_zero, putsFrom, Act.put, List.setIfInBounds_toArray, List.set_cons_zero, List.set_cons_succ, Nat.reduceAdd, e20] at hK ⊢
          go_simp
          exact hK.out _ _ ((Kp.refl _).alloc _) ⟨u.heap.size, .slice A3 m c3, rfl, by simp, ⟨by simp, by simp, by simp⟩, ho.kp ((Kp.refl _).alloc _)⟩
        intro x u hg he
        have d0 : (x 0) = .slice A L.length c := And.left he
        have d1 : (x 1) = .int .i64 k := And.left (And.right he)
        have d2 : (x 2) = .pointer (some ⟨hp, 0, none⟩) := And.left (And.right (And.right he))
        have d3 : (x 3) = .pointer (some ⟨hp, 0, none⟩) := And.left (And.right (And.right (And.right he)))
        have d4 : (x 4) = .pointer (some ⟨hp, 2, none⟩) := And.left (And.right (And.right (And.right (And.right he))))
        have d5 : (x 5) = .slice (some ⟨gh, 0, none⟩) N N := And.left (And.right (And.right (And.right (And.right (And.right he)))))
        have d6 : (x 6) = .int .i64 k := And.left (And.right (And.right (And.right (And.right (And.right (And.right he))))))
        have d7 : (x 7) = .pointer (some ⟨gh, k, none⟩) := And.left (And.right (And.right (And.right (And.right (And.right (And.right (And.right he)))))))
        have d8 : (x 8) = .int .i64 t := And.left (And.right (And.right (And.right (And.right (And.right (And.right (And.right (And.right he))))))))
        have d9 : (x 9) = .pointer (some ⟨hp, 0, none⟩) := And.left (And.right (And.right (And.right (And.right (And.right (And.right (And.right (And.right (And.right he)))))))))
        have d10 : (x 10) = .pointer (some ⟨hp, 0, none⟩) := And.left (And.right (And.right (And.right (And.right (And.right (And.right (And.right (And.right (And.right (And.right he))))))))))
        have d11 : (x 11) = .pointer (some ⟨hp, 0, none⟩) := And.left (And.right (And.right (And.right (And.right (And.right (And.right (And.right (And.right (And.right (And.right (And.right he)))))))))))
        have d12 : (x 12) = .slice (some ⟨gc, 0, none⟩) N N := And.left (And.right (And.right (And.right (And.right (And.right (And.right (And.right (And.right (And.right (And.right (And.right (And.right he))))))))))))
        have d13 : (x 13) = .int .i64 k := And.left (And.right (And.right (And.right (And.right (And.right (And.right (And.right (And.right (And.right (And.right (And.right (And.right (And.right he)))))))))))))
        have d14 : (x 14) = .int .i64 ((k : Int) + 1) := And.left (And.right (And.right (And.right (And.right (And.right (And.right (And.right (And.right (And.right (And.right (And.right (And.right (And.right (And.right he))))))))))))))
        have d15 : (x 15) = .int .i64 k := And.left (And.right (And.right (And.right (And.right (And.right (And.right (And.right (And.right (And.right (And.right (And.right (And.right (And.right (And.right (And.right he)))))))))))))))
        have d16 : (x 16) = .int .i64 ((m : Int) + 1) := And.left (And.right (And.right (And.right (And.right (And.right (And.right (And.right (And.right (And.right (And.right (And.right (And.right (And.right (And.right (And.right (And.right he))))))))))))))))
        have d17 : (x 17) = .int .i64 ((k : Int) + ((m : Int) + 1)) := And.left (And.right (And.right (And.right (And.right (And.right (And.right (And.right (And.right (And.right (And.right (And.right (And.right (And.right (And.right (And.right (And.right (And.right he)))))))))))))))))
        have d18 : RdCells u (x 18) C := And.left (And.right (And.right (And.right (And.right (And.right (And.right (And.right (And.right (And.right (And.right (And.right (And.right (And.right (And.right (And.right (And.right (And.right (And.right he))))))))))))))))))
        have d19 : OCells u wr.heap.size (x 19) C := And.left (And.right (And.right (And.right (And.right (And.right (And.right (And.right (And.right (And.right (And.right (And.right (And.right (And.right (And.right (And.right (And.right (And.right (And.right (And.right he)))))))))))))))))))
        have d20 : ∃ la, (x 20) = .agg #[.int .i64 k, .int .i64 t, la] ∧ OCells u wr.heap.size la C := And.left (And.right (And.right (And.right (And.right (And.right (And.right (And.right (And.right (And.right (And.right (And.right (And.right (And.right (And.right (And.right (And.right (And.right (And.right (And.right (And.right he))))))))))))))))))))
        have d21 : ∃ g la, (x 21) = .slice (some ⟨g, 0, none⟩) 1 1 ∧ g < u.heap.size ∧ (u.cell? ⟨g, 0, none⟩ = some (.int .i64 k) ∧ u.cell? ⟨g, 1, none⟩ = some (.int .i64 t) ∧ u.cell? ⟨g, 2, none⟩ = some la) ∧ OCells u wr.heap.size la C := And.left (And.right (And.right (And.right (And.right (And.right (And.right (And.right (And.right (And.right (And.right (And.right (And.right (And.right (And.right (And.right (And.right (And.right (And.right (And.right (And.right (And.right he)))))))))))))))))))))
        clear he
        refine ⟨?_⟩
        simp only [List.take_succ_cons, List.take_zero, List.drop_succ_cons, List.drop_zero, putsFrom, Act.put, List.setIfInBounds_toArray, List.set_cons_zero, List.set_cons_succ, Nat.reduceAdd, d0, d1, d2, d3, d4, d5, d6, d7, d8, d9, d10, d11, d12, d13, d14, d15, d16, d17]
        clear d0 d1 d2 d3 d4 d5 d6 d7 d8 d9 d10 d11 d12 d13 d14 d15 d16 d17
        obtain ⟨g, la, e21, hgl, ⟨c0, c1, c2⟩, hla⟩ := d21
        obtain ⟨A3, c3, hf⟩ := hla.form
        rw [e21]
        obtain ⟨xs, hown0, hch0, hap⟩ := HO.out
        have hown := ownsRow_keep hown0 hg
        have hch := hch0.kp CeB.kp hg
        have HAP := hid hap; have HCH0 := hid hch0
        clear hap hch0 hown0
        have HCH := hid hch
        have HLA := hid hla
        have hlit : ∀ (j : Nat) (y : Value), ([.int .i64 k, .int .i64 t, la] : List Value)[j]? = some y → u.cell? ((⟨g, 0, none⟩ : Addr).add j) = some y := by
          intro j y hj
          match j, hj with
          | 0, hj => simp at hj; subst hj; exact c0
          | 1, hj => simp at hj; subst hj; exact c1
          | 2, hj => simp at hj; subst hj; exact c2
          | j + 3, hj => simp at hj
        have h1 : ∀ y ∈ ([.int .i64 k, .int .i64 t, la] : List Value), y.oneCell' = true := by
          subst hf; intro y hy; simp at hy; rcases hy with rfl | rfl | rfl <;> rfl
        have hbase : w.heap.size ≤ u.heap.size := Nat.le_trans hsz hg.le
        have HLIT := hid hlit; have HH1 := hid h1
        have hKu : Kp w u := HK.out.trans hg
        have HKU := hid hKu
        clear d18 d19 d20 c0 c1 c2 hch hla hlit h1 hKu hf
        go_wp2_with (at_builtin; go_must (refine app_src elBlk rfl (.tmp 21) (.tmp 42) rfl hown rfl [.int .i64 k, .int .i64 t, la] (some ⟨g, 0, none⟩) 1 1 rfl rfl (fun _ => ⟨_, rfl, HLIT.out⟩) HH1.out (by unfold maxLen; omega) (by omega) hbase ?_); intro v2 w2 hown2 hg2 hm2 hb2)
        go_roundw
        case rel =>
          refine ⟨k + 1, by omega, by simp, ?_, Below.trans HKU.out hb2⟩
          rw [blks_succ, HSE.out, if_pos (by omega), HL.out, HTE.out]
          have e : (((m : Int) + 1).toNat - 1) = m := by omega
          rw [e, HC.out]
          have hap := ApartX.snoc (p := .int .i64 k) (s := .int .i64 t) (la := la) HAP.out HCH0.out (fun g hg' => by obtain ⟨ys, g1, _⟩ := HLA.out; exact (g1.lt g hg').1)
          refine ⟨xs ++ [.int .i64 k, .int .i64 t, la], ?_, ?_, hap⟩
          · rw [List.length_append]; exact hown2
          · have hce : CeB w.heap.size w2 [.int .i64 k, .int .i64 t, la] ⟨k, t, C⟩ := ⟨la, rfl, by
              obtain ⟨ys, g1, g2⟩ := HLA.out
              exact OCells.base ⟨ys, ownsRow_touch (by decide) g1 (Touch.of_grown hown hg2), Chunk.mono (w := u) (w' := w2) (fun _ _ h => h) g2⟩ hsz⟩
            exact Chunk.append (Chunk.one (sz := 3) hce rfl) (HCH.out.mono (fun cs a h => CeB.touch h (Touch.of_grown hown hg2)))
        case measure => simp [intOf]; omega
      · have e0 : s = 0 := by omega
        subst e0
        go_wp2
        go_roundw
        case rel =>
          refine ⟨k + 1, by omega, by simp, ?_, HK.out⟩
          rw [blks_succ, HSE.out, if_neg (by decide), List.append_nil]
          exact HO.out
        case measure => simp [intOf]; omega
    · obtain rfl : k = N := by omega
      have i1 : ¬ ((k : Int) < (k : Int)) := by omega
      have e : (List.range k).filterMap (blkAt H.sizes H.shapes H.cells) = blocksM H.sizes H.shapes H.cells := by unfold blocksM; rw [HS.out]
      rw [e] at HO
      have HE := hid HO.out
      clear HO
      go_wp2
      go_ret
      exact ⟨⟨_, rfl, HE.out⟩, HK.out⟩
theorem blocks_any (w : World) (lo hi hp : Nat) (H : HeapM) (h : HeapIs w lo hi hp H) : Calls Try.prog 19 #[.pointer (some ⟨hp, 0, none⟩)] w fun e w' => (∃ v, e = .returned v ∧ OBlksA w' w.heap.size v (blocksM H.sizes H.shapes H.cells)) ∧ Kp w w' := by
  obtain ⟨gc, gs, gh, hat, _⟩ := h
  exact blocks_at w hp gc gs gh H hat
end Go.Proofs.Ytffjfkmnlfndkaa
