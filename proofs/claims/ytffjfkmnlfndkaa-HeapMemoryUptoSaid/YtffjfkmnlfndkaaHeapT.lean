/-
  The heap laws' state: a heap that goes on being called; how many cells are in blocks. Condition: as HeapK.
-/
import Derived.Test.YtffjfkmnlfndkaaHeapK
namespace Go.Proofs.Ytffjfkmnlfndkaa
open Go.RowKit
set_option linter.unusedVariables false

structure HSt (w0 : World) (lo hi hq N : Nat) (H : HeapM) (u : World) : Prop where
  heap : HeapIs u lo hi hq H
  sound : MadeOk N (H, [])
  low : Below lo w0 u
  le : hi ≤ u.heap.size
theorem HSt.kp {w0 u u' : World} {lo hi hq N : Nat} {H : HeapM} (h : HSt w0 lo hi hq N H u) (hk : Kp u u') : HSt w0 lo hi hq N H u' :=
  ⟨h.heap.kp hk, h.sound, Below.trans h.low (Below.mono hk (Nat.le_trans h.heap.hxlo h.le)), Nat.le_trans h.le hk.le⟩
theorem HSt.hx {w0 u u' : World} {lo hi hq N : Nat} {H H' : HeapM} (h : HSt w0 lo hi hq N H u) (hx : Hx lo hi u u') (hh : HeapIs u' lo hi hq H') (hs : MadeOk N (H', [])) : HSt w0 lo hi hq N H' u' :=
  ⟨hh, hs, Below.trans h.low hx.below, Nat.le_trans h.le hx.size⟩
/-- append(own row, src...) at an operation of a region. -/
theorem wp_app {P : Program} {Q : Exit → Act → World → Prop} {o : Oper} {a : Act} {w0 : World} {t e : TypeId} {z v : Value} {size bytes base n : Nat} {xs : List Value} {K : Act → World → Prop} (E : El P t e z size bytes) (s x : Operand) (ho : o.op = .call { callee := .builtin .append, args := #[s, x], argTypes := #[t, t] })
    (hown : w0.ownsRow base e size v n xs) (hs : a.eval s = v) (news : List Value) (A : Option Addr) (m c : Nat) (hx : a.eval x = .slice A m c) (hl : news.length = m * size)
    (hcell : 0 < m → ∃ ad, A = some ad ∧ ∀ j u, news[j]? = some u → w0.cell? (ad.add j) = some u)
    (h1 : ∀ u ∈ news, u.oneCell' = true) (h63 : n + m ≤ maxLen) (hbytes : (n + m) * bytes ≤ 140737488355328) (hbase : base ≤ w0.heap.size)
    (h : ∀ v' w', w'.ownsRow base e size v' (n + m) (xs ++ news) → w0.grownBy w' v.ownBlock → Moved w0 v v' → Below base w0 w' → K (a.put o.dst v') w') :
    Oper.wp P o a w0 K Q := by
  obtain ⟨v', w', hrun, g1, g2, g3, g4⟩ := run_app E o.type hown news A m c hl hcell h1 h63 hbytes hbase
  unfold Oper.wp execOp
  simp only [ho, resolve, invoke, builtin, Sem.run_bind, Sem.run_pure, Result.andThen_ok, List.map_toArray, List.map_cons, List.map_nil, hs, hx, hrun]
  exact h v' w' g1 g2 g3 g4
/-! ### sums -/
def sumI : List Int → Int
  | [] => 0
  | s :: l => s + sumI l
theorem sumI_app : ∀ a b : List Int, sumI (a ++ b) = sumI a + sumI b
  | [], b => by simp [sumI]
  | s :: a, b => by have := sumI_app a b; simp only [List.cons_append, sumI]; omega
theorem sumI_nonneg : ∀ l : List Int, (∀ s ∈ l, 0 ≤ s) → 0 ≤ sumI l
  | [], _ => by simp [sumI]
  | s :: l, h => by
    have := sumI_nonneg l (fun x hx => h x (by simp [hx])); have := h s (by simp); simp only [sumI]; omega
theorem free_sum : ∀ (l : List Int) (x : Int), (∀ s ∈ l, 0 ≤ s) → sumI l ≤ x → x ≤ 4000 → l.foldl freeF x = x - sumI l
  | [], x, _, _, _ => by simp [sumI]
  | s :: l, x, h, h1, h2 => by
    have a := sumI_nonneg l (fun x hx => h x (by simp [hx])); have b := h s (by simp)
    simp only [sumI] at h1 ⊢
    simp only [List.foldl_cons]
    have e : freeF x s = x - s := by unfold freeF wrap64; omega
    rw [e, free_sum l (x - s) (fun x hx => h x (by simp [hx])) (by omega) (by omega)]
    omega
theorem sum_take (S : List Int) (k : Nat) (hk : k < S.length) : sumI (S.take (k + 1)) = sumI (S.take k) + sz S k := by
  rw [List.take_add_one, sumI_app, List.getElem?_eq_getElem hk, sz_of (List.getElem?_eq_getElem hk)]
  simp [sumI]
/-- The cells of blocks. -/
def usedM : List BlockM → Int
  | [] => 0
  | b :: l => 1 + (b.cells.length : Int) + usedM l
theorem used_app : ∀ a b : List BlockM, usedM (a ++ b) = usedM a + usedM b
  | [], b => by simp [usedM]
  | s :: a, b => by have := used_app a b; simp only [List.cons_append, usedM]; omega
theorem used_nonneg : ∀ l : List BlockM, 0 ≤ usedM l
  | [] => by simp [usedM]
  | b :: l => by have := used_nonneg l; simp only [usedM]; omega
theorem tile_used {S : List Int} : ∀ (l : List BlockM) (lo : Nat), Tile S lo l → (lo : Int) + usedM l ≤ S.length
  | [], lo, h => by have := h.1; simp only [usedM]; omega
  | b :: r, lo, ⟨h1, h2, h3, h4, h5, h6⟩ => by have := tile_used r _ h6; simp only [usedM]; omega
theorem used_range {S T : List Int} {C : List CellM} (hs : SoundS S) (hC : C.length = S.length) : ∀ k, k ≤ S.length → usedM ((List.range k).filterMap (blkAt S T C)) = sumI (S.take k)
  | 0, _ => by simp [usedM, sumI]
  | k + 1, hk => by
    rw [blks_succ, used_app, used_range hs hC k (by omega), sum_take S k (by omega)]
    split
    · rename_i h0
      have := blk_len hs hC h0
      simp only [usedM]; omega
    · have := (hs k (by omega)).1
      simp only [usedM]; omega
theorem used_all {S T : List Int} {C : List CellM} (hs : SoundS S) (hC : C.length = S.length) : usedM (blocksM S T C) = sumI S := by
  have := used_range (T := T) hs hC S.length (Nat.le_refl _)
  rw [List.take_length] at this
  exact this
theorem MadeOk.sum {N : Nat} {H : HeapM} {at_ : List Int} (h : MadeOk N (H, at_)) : 0 ≤ sumI H.sizes ∧ sumI H.sizes ≤ N ∧ usedM (blocksM H.sizes H.shapes H.cells) = sumI H.sizes := by
  have hs : SoundS H.sizes := h.sound
  have l1 : H.sizes.length = H.cells.length := h.lsz
  have l2 : H.cells.length = N := h.room_
  have e := used_all (T := H.shapes) hs l1.symm
  have t := tile_used _ 0 (tile_all (T := H.shapes) hs l1.symm)
  refine ⟨by rw [← e]; exact used_nonneg _, ?_, e⟩
  rw [e] at t; omega
theorem MadeOk.free {N : Nat} {H : HeapM} {at_ : List Int} (h : MadeOk N (H, at_)) (hN : N ≤ 4000) : freeM H = N - sumI H.sizes := by
  obtain ⟨a, b, _⟩ := h.sum
  have hs : SoundS H.sizes := h.sound
  have l2 : H.cells.length = N := h.room_
  unfold freeM
  rw [l2]
  refine free_sum _ _ (fun s hm => ?_) b (by omega)
  obtain ⟨q, hq, e⟩ := List.mem_iff_getElem.1 hm
  have := (hs q hq).1
  rw [sz_of (List.getElem?_eq_getElem hq), e] at this
  exact this
theorem lessL_take (f : Nat → Bool) (L : List Int) (k : Nat) : sumI ((lessL f L).take (k + 1)) = sumI ((lessL f L).take k) + sz (lessL f L) k := by
  rcases Nat.lt_or_ge k (lessL f L).length with h | h
  · exact sum_take _ _ h
  · rw [List.take_of_length_le (by omega), List.take_of_length_le (by omega), sz_out (by omega)]; omega
/-- What is let go. -/
theorem sum_less {S : List Int} (hs : SoundS S) (K : Nat → Bool) : ∀ k, k ≤ S.length → sumI ((lessL (goneF S K S.length) S).take k) + (unseenGo S K k : Nat) = sumI (S.take k)
  | 0, _ => by simp [sumI, unseenGo]
  | k + 1, hk => by
    have ih := sum_less hs K k (by omega)
    have h0 := (hs k (by omega)).1
    rw [lessL_take, sum_take S k (by omega), lessL_sz]
    unfold unseenGo
    have e : goneF S K S.length k = (!K k && decide (0 < sz S k)) := by unfold goneF; rw [decide_eq_true (show k < S.length by omega), Bool.true_and]
    rw [e]
    cases hK : K k
    · by_cases hp : 0 < sz S k
      · simp only [hp, Bool.not_false, Bool.true_and, decide_true, if_true, Bool.false_eq_true, if_false]; omega
      · simp only [hp, Bool.not_false, Bool.true_and, decide_false, Bool.false_eq_true, if_false]; omega
    · simp only [Bool.not_true, Bool.false_and, Bool.false_eq_true, if_false, if_true]; omega
theorem collect_sum {N : Nat} {H : HeapM} {at_ : List Int} (h : MadeOk N (H, at_)) (roots : List CellM) : sumI (collectH H roots).sizes + (collectN H roots : Nat) = sumI H.sizes := by
  have := sum_less (S := H.sizes) h.sound (keepB H roots) H.sizes.length (Nat.le_refl _)
  rw [List.take_length] at this
  have e : (lessL (goneF H.sizes (keepB H roots) H.sizes.length) H.sizes).take H.sizes.length = lessL (goneF H.sizes (keepB H roots) H.sizes.length) H.sizes := List.take_of_length_le (by rw [lessL_len]; omega)
  rw [e] at this
  exact this
/-- What is led to stays. -/
theorem keep_same {N : Nat} {H : HeapM} {at_ : List Int} (h : MadeOk N (H, at_)) (roots : List CellM) (k : Nat) : keepB (collectH H roots) roots k = keepB H roots k := by
  have hs : SoundS H.sizes := h.sound
  have key : Reach (collectH H roots).sizes H.cells roots k ↔ Reach H.sizes H.cells roots k := by
    refine reach_less (fun q hq => ?_) (fun q => ?_) k
    · show sz (lessL _ H.sizes) q = _
      rw [lessL_sz, if_neg]
      have := (keepB_iff H roots q).2 hq
      simp [goneF, this]
    · show sz (lessL _ H.sizes) q = _ ∨ sz (lessL _ H.sizes) q = 0
      rw [lessL_sz]; split
      · exact .inr rfl
      · exact .inl rfl
  have a := keepB_iff (collectH H roots) roots k
  have b := keepB_iff H roots k
  have c : (collectH H roots).cells = H.cells := rfl
  rw [c] at a
  cases e1 : keepB (collectH H roots) roots k <;> cases e2 : keepB H roots k <;> simp_all
theorem collect_sz {N : Nat} {H : HeapM} {at_ : List Int} (h : MadeOk N (H, at_)) (roots : List CellM) (q : Nat) : sz (collectH H roots).sizes q = if keepB H roots q then sz H.sizes q else 0 := by
  have hs : SoundS H.sizes := h.sound
  show sz (lessL _ H.sizes) q = _
  rw [lessL_sz]
  unfold goneF
  rcases Nat.lt_or_ge q H.sizes.length with hq | hq
  · have h0 := (hs q hq).1
    cases hK : keepB H roots q
    · by_cases hp : 0 < sz H.sizes q
      · simp [hp, hq]
      · have : sz H.sizes q = 0 := by omega
        simp [this]
    · simp
  · rw [sz_out hq]; simp
theorem unseen_zero {S : List Int} {K : Nat → Bool} : ∀ k, (∀ q, K q = false → sz S q = 0) → unseenGo S K k = 0
  | 0, _ => rfl
  | k + 1, h => by
    unfold unseenGo
    rw [unseen_zero k h]
    cases hK : K k
    · rw [h k hK]; rfl
    · rfl
theorem collect_twice {N : Nat} {H : HeapM} {at_ : List Int} (h : MadeOk N (H, at_)) (roots : List CellM) : collectN (collectH H roots) roots = 0 := by
  refine unseen_zero _ fun q hq => ?_
  rw [keep_same h] at hq
  rw [collect_sz h, hq]; rfl
theorem collect_none {N : Nat} {H : HeapM} {at_ : List Int} (h : MadeOk N (H, at_)) (q : Nat) : sz (collectH H []).sizes q = 0 := by
  rw [collect_sz h]
  have : keepB H [] q = false := by
    cases e : keepB H [] q
    · rfl
    · exfalso
      have hr := (keepB_iff H [] q).1 e
      have key : ∀ k, Reach H.sizes H.cells [] k → False := by
        intro k hr
        induction hr with
        | root hc _ => simp at hc
        | step _ _ _ ih => exact ih
      exact key q hr
  rw [this]; rfl
theorem sum_zero {S : List Int} (h : ∀ q, sz S q = 0) : ∀ k, k ≤ S.length → sumI (S.take k) = 0
  | 0, _ => by simp [sumI]
  | k + 1, hk => by rw [sum_take S k (by omega), sum_zero h k (by omega), h k]; rfl
theorem blocks_none {S T : List Int} {C : List CellM} (h : ∀ q, sz S q = 0) : blocksM S T C = [] := by
  unfold blocksM
  rw [List.filterMap_eq_nil_iff]
  intro q _
  unfold blkAt; rw [if_neg (by rw [h q]; omega)]
/-! ### the calls, on the state -/
theorem free_st {w0 u : World} {lo hi hq N : Nat} {H : HeapM} (h : HSt w0 lo hi hq N H u) (hN : N ≤ 4000) : Calls Try.prog 27 #[.pointer (some ⟨hq, 0, none⟩)] u fun e w' => e = .returned (.int .i64 (N - sumI H.sizes)) ∧ u = w' := by
  obtain ⟨gc, gs, gh, hat, _⟩ := h.heap
  refine (free_any u hq gc gs gh H hat).mono ?_
  rintro e w' ⟨rfl, rfl⟩
  exact ⟨by rw [h.sound.free hN], rfl⟩
theorem blocks_st {w0 u : World} {lo hi hq N : Nat} {H : HeapM} (h : HSt w0 lo hi hq N H u) : Calls Try.prog 19 #[.pointer (some ⟨hq, 0, none⟩)] u fun e w' => (∃ v, e = .returned v ∧ OBlksA w' u.heap.size v (blocksM H.sizes H.shapes H.cells)) ∧ Kp u w' ∧ HSt w0 lo hi hq N H w' := by
  refine (blocks_any u lo hi hq H h.heap).mono ?_
  rintro e w' ⟨h1, h2⟩
  exact ⟨h1, h2, h.kp h2⟩
theorem collect_st {w0 u : World} {lo hi hq N : Nat} {H : HeapM} {rv : Value} {roots : List CellM} (h : HSt w0 lo hi hq N H u) (hr : RdCells u rv roots) (hb : roots.length ≤ 4000000) : Calls Try.prog 23 #[.pointer (some ⟨hq, 0, none⟩), rv] u fun e w' => e = .returned (.int .i64 (collectN H roots)) ∧ Hx lo hi u w' ∧ HSt w0 lo hi hq N (collectH H roots) w' := by
  refine (collect_any u lo hi hq H rv roots h.heap h.sound.sound hr hb h.heap.hxlo h.le).mono ?_
  rintro e w' ⟨rfl, h1, h2⟩
  exact ⟨rfl, h2, h.hx h2 h1 (h.sound.collect roots)⟩
theorem alloc_st {w0 u : World} {lo hi hq N : Nat} {H : HeapM} (h : HSt w0 lo hi hq N H u) (t n : Int) : Calls Try.prog 25 #[.pointer (some ⟨hq, 0, none⟩), .int .i64 t, .int .i64 n] u fun e w' => e = .returned (.tuple #[.int .i64 (allocC H t n).1, .int .i64 (allocC H t n).2]) ∧ Hx lo hi u w' ∧ HSt w0 lo hi hq N (allocM H t n) w' := by
  refine (alloc_any u lo hi hq H t n h.heap h.sound.sound (Nat.le_trans h.heap.hxlo h.le)).mono ?_
  rintro e w' ⟨rfl, h1, h2⟩
  exact ⟨rfl, h2, h.hx h2 h1 (h.sound.alloc' t n)⟩
end Go.Proofs.Ytffjfkmnlfndkaa
