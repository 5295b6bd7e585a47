/-
  Package heap: Collect. Condition: the heap has at most 4000 cells, and there are at most four million roots.
-/
import Derived.Test.YtffjfkmnlfndkaaHeapC
namespace Go.Proofs.Ytffjfkmnlfndkaa
open Go.RowKit Go.Maps
set_option linter.unusedVariables false

noncomputable def keepB (H : HeapM) (roots : List CellM) (k : Nat) : Bool := @decide (Reach H.sizes H.cells roots k) (Classical.propDecidable _)
theorem keepB_iff (H : HeapM) (roots : List CellM) (k : Nat) : keepB H roots k = true ↔ Reach H.sizes H.cells roots k := by unfold keepB; exact @decide_eq_true_iff _ (Classical.propDecidable _)
def lessL (f : Nat → Bool) (L : List Int) : List Int := L.mapIdx fun q s => if f q then 0 else s
theorem lessL_len (f : Nat → Bool) (L : List Int) : (lessL f L).length = L.length := by simp [lessL]
theorem lessL_at (f : Nat → Bool) (L : List Int) (q : Nat) : (lessL f L)[q]? = L[q]?.map fun s => if f q then 0 else s := by simp [lessL, List.getElem?_mapIdx]
theorem lessL_sz (f : Nat → Bool) (L : List Int) (q : Nat) : sz (lessL f L) q = if f q then 0 else sz L q := by
  unfold sz List.getD
  rw [lessL_at]
  cases L[q]? with
  | none => simp
  | some s => simp only [Option.map_some, Option.getD_some]
def goneF (S : List Int) (K : Nat → Bool) (k q : Nat) : Bool := decide (q < k) && !K q && decide (0 < sz S q)
def goneH (H : HeapM) (f : Nat → Bool) : HeapM := { H with sizes := lessL f H.sizes, shapes := lessL f H.shapes }
theorem lessL_congr {f g : Nat → Bool} (h : ∀ q, f q = g q) (L : List Int) : lessL f L = lessL g L := by rw [show f = g from funext h]
theorem lessL_set {f g : Nat → Bool} {k : Nat} (h : ∀ q, g q = (f q || q == k)) (L : List Int) : (lessL f L).set k 0 = lessL g L := by
  apply List.ext_getElem?
  intro q
  rw [lessL_at, List.getElem?_set, lessL_len, lessL_at, h q]
  by_cases e : k = q
  · subst e
    rw [if_pos rfl]
    by_cases hk : k < L.length
    · rw [if_pos hk, List.getElem?_eq_getElem hk]; simp
    · rw [if_neg hk, List.getElem?_eq_none (by omega)]; rfl
  · rw [if_neg e]
    have : (q == k) = false := by simp; omega
    rw [this, Bool.or_false]
theorem goneF_zero (S : List Int) (K : Nat → Bool) (q : Nat) : goneF S K 0 q = false := by simp [goneF]
theorem goneF_same {S : List Int} {K : Nat → Bool} {k : Nat} (h : K k = true ∨ ¬ 0 < sz S k) (q : Nat) : goneF S K (k + 1) q = goneF S K k q := by
  unfold goneF
  by_cases e : q = k
  · subst e
    rcases h with h | h <;> simp [h]
  · have : (q < k + 1) = (q < k) := by apply propext; omega
    simp only [this]
theorem goneF_step {S : List Int} {K : Nat → Bool} {k : Nat} (h : K k = false) (h0 : 0 < sz S k) (q : Nat) : goneF S K (k + 1) q = (goneF S K k q || q == k) := by
  unfold goneF
  by_cases e : q = k
  · subst e
    simp [h, h0]
  · have : (q < k + 1) = (q < k) := by apply propext; omega
    have e2 : (q == k) = false := by simp; exact e
    simp only [this, e2, Bool.or_false]
theorem HeapAt.two {w : World} {hp gc gs gh : Nat} {H : HeapM} (h : HeapAt w hp gc gs gh H) (k : Nat) : HeapAt ((w.setCell ⟨gs, k, none⟩ (.int .i64 0)).setCell ⟨gh, k, none⟩ (.int .i64 0)) hp gc gs gh { H with sizes := H.sizes.set k 0, shapes := H.shapes.set k 0 } := by
  obtain ⟨n1, n2, n3, n4, n5, n6⟩ := h.ne
  refine ⟨?_, ?_, ?_, ?_, ?_, ?_, h.ne, h.le, ?_, ?_⟩
  · rw [set_other _ n4, set_other _ n3]; exact h.head
  · rw [set_other _ n6, set_other _ n5]; exact h.cell
  · rw [set_other _ n1, heap_set (l := H.sizes.map intV) h.size k _, map_set_int]
  · rw [heap_set (l := H.shapes.map intV) (by rw [set_other _ (Ne.symm n1)]; exact h.shape) k _, map_set_int]
  · rw [List.length_set]; exact h.lsz
  · rw [List.length_set]; exact h.lsh
  · intro s hs
    rcases List.mem_or_eq_of_mem_set hs with g | g
    · exact h.ok s g
    · subst g; omega
  · intro j s hj
    dsimp only at hj ⊢
    rw [List.getElem?_set] at hj
    split at hj
    · rename_i e
      subst e
      split at hj
      · rename_i hl
        have := Option.some.inj hj
        have := h.lsz
        omega
      · cases hj
    · exact h.fit j s hj
theorem HeapAt.hx {w w' : World} {lo hi hp gc gs gh : Nat} {H : HeapM} (h : HeapAt w hp gc gs gh H) (hk : Kp w w') : HeapAt w' hp gc gs gh H := h.kp hk
noncomputable def collectH (H : HeapM) (roots : List CellM) : HeapM := goneH H (goneF H.sizes (keepB H roots) H.sizes.length)
noncomputable def collectN (H : HeapM) (roots : List CellM) : Nat := unseenGo H.sizes (keepB H roots) H.sizes.length
def lenI (v : Value) : Nat := match v with | .int _ i => i.toNat | _ => 0
set_option maxRecDepth 20000 in
set_option maxHeartbeats 4000000 in
theorem collect_any (w : World) (lo hi hp : Nat) (H : HeapM) (rv : Value) (roots : List CellM) (h : HeapIs w lo hi hp H) (hs : SoundS H.sizes) (hr : RdCells w rv roots) (hb : roots.length ≤ 4000000) (hl : lo ≤ hi) (hh : hi ≤ w.heap.size) :
    Calls Try.prog 23 #[.pointer (some ⟨hp, 0, none⟩), rv] w fun e w' => e = .returned (.int .i64 (collectN H roots)) ∧ HeapIs w' lo hi hp (collectH H roots) ∧ Hx lo hi w w' := by
  obtain ⟨gc, gs, gh, hat, r1, r2, r3, r4⟩ := h
  have HS := hid hs; have HR := hid hr; have HH := hid hat
  obtain ⟨A, c, rfl, _⟩ := RdL.form hr
  have hle := hat.le
  have hlz := hat.lsz
  have hlh := hat.lsh
  have hsz : ∀ k, sz H.sizes k ≤ 4000 := fun k => by
    rcases Nat.lt_or_ge k H.sizes.length with h1 | h1
    · exact (hat.ok _ (List.mem_of_getElem? (sz_at h1))).2
    · rw [sz_out h1]; omega
  have hun : ∀ k, k ≤ 4000 → unseenGo H.sizes (keepB H roots) k ≤ 16000000 := fun k hk => by
    have := unseen_le (f := keepB H roots) hsz k
    have : k * 4000 ≤ 4000 * 4000 := Nat.mul_le_mul_right _ hk
    omega
  have HUN := hid hun
  obtain ⟨N, hN⟩ : ∃ N, H.cells.length = N := ⟨_, rfl⟩
  have HN := hid hN
  clear hs hr hat hsz hun hN
  go_enter Try.func23, Try.ntmps23
  go_wp2_with (go_at_call 44; go_must (refine (mark_at _ hp gc gs gh H _ roots HH.out HS.out HR.out hb).mono ?_); rintro e w1 ⟨⟨B, cnt, D, rfl, hB, hmap, hin⟩, hk1⟩)
  have hK : ∀ k : Nat, Maps.has D (.int .i64 (k : Int)) = keepB H roots k := fun k => by
    have h1 := hin k; have h2 := keepB_iff H roots k
    unfold inD at h1
    cases e1 : Maps.has D (.int .i64 (k : Int)) <;> cases e2 : keepB H roots k <;> simp_all
  have HMAP := hid hmap; have HK := hid hK; have HK1 := hid hk1
  clear hmap hK hin hk1
  go_loopw [6, 7] (fun n i wr => ∃ k : Nat, k ≤ N ∧ i = .int .i64 k ∧ n = .int .i64 (unseenGo H.sizes (keepB H roots) k : Nat) ∧ HeapAt wr hp gc gs gh (goneH H (goneF H.sizes (keepB H roots) k)) ∧ Hx lo hi w1 wr) (fun _ i _ => N - lenI i)
  case atStart =>
    refine ⟨0, by omega, rfl, rfl, ?_, Hx.refl _ _ _⟩
    have e : goneH H (goneF H.sizes (keepB H roots) 0) = H := by
      unfold goneH lessL
      simp only [goneF_zero]
      have m : ∀ L : List Int, List.mapIdx (fun q s => if false = true then (0 : Int) else s) L = L := fun L => by
        apply List.ext_getElem?; intro q; rw [List.getElem?_mapIdx]; cases L[q]? <;> rfl
      rw [m, m]
    rw [e]; exact HH.out.kp HK1.out
  case round =>
    obtain ⟨k, hk, rfl, rfl, hat, hx⟩ := hrel
    have HK0 := hid hat; have HX := hid hx
    have hun := HUN.out k (by have := HN.out; omega)
    have hmapr : wr.ownsMap Try.prog 3 unitElem B cnt D := by
      obtain ⟨es, clock, k1, k2⟩ := HMAP.out
      exact ⟨es, clock, by rw [HX.out.high _ (Nat.le_trans hh hB) (blk_lt k1)]; exact k1, k2⟩
    have hBw : B < wr.heap.size := hmapr.lt
    have hNe := HN.out
    have q0 := hat.h0; have q1 := hat.h1; have q2 := hat.h2
    have ec : (goneH H (goneF H.sizes (keepB H roots) k)).cells.length = N := hNe
    rw [ec] at q0 q1 q2
    have hlz' : H.sizes.length = N := hlz.trans hNe
    clear hat hx
    by_cases hlt : k < N
    · have hs : (goneH H (goneF H.sizes (keepB H roots) k)).sizes[k]? = some (sz H.sizes k) := by
        show (lessL _ H.sizes)[k]? = _
        rw [lessL_at, sz_at (by omega)]; simp [goneF]
      have qs := HK0.out.sz hs
      have hok := HH.out.ok _ (List.mem_of_getElem? (sz_at (S := H.sizes) (j := k) (by omega)))
      have hsn := HUN.out (k + 1) (by have := HH.out.le; omega)
      have i1 : (k : Int) < (N : Int) := by omega
      have eU : unseenGo H.sizes (keepB H roots) (k + 1) = unseenGo H.sizes (keepB H roots) k + (if keepB H roots k then 0 else (sz H.sizes k).toNat) := rfl
      have EU := hid eU
      obtain ⟨s, hse⟩ : ∃ s, sz H.sizes k = s := ⟨_, rfl⟩
      obtain ⟨n, hn⟩ : ∃ n, unseenGo H.sizes (keepB H roots) k = n := ⟨_, rfl⟩
      have hnn : n ≤ 16000000 := by rw [← hn]; exact hun
      rw [hse] at qs hok
      rw [hn]
      have HSE := hid hse; have HNN := hid hn
      have KK : Hid (wrap64 ((k : Int) + 1) = (k : Int) + 1) := hid (by unfold wrap64; omega)
      have hs' := hid hs
      clear hse hs eU hn hun hlz' hNe ec
      by_cases h0 : s = 0
      · subst h0
        go_wp2
        go_roundw
        case rel =>
          refine ⟨k + 1, by omega, by rw [KK.out]; rfl, ?_, ?_, HX.out⟩
          · rw [EU.out, HSE.out, HNN.out]; simp
          · rw [show goneF H.sizes (keepB H roots) (k + 1) = goneF H.sizes (keepB H roots) k from funext (goneF_same (.inr (by rw [HSE.out]; omega)))]; exact HK0.out
        case measure => simp only [lenI, KK.out]; omega
      · have b0 : (s == 0) = false := by simp [h0]
        have hkey : keyOf Try.prog 3 (.int .i64 (k : Int)) = some (.int .i64 (k : Int)) := Maps.keyOf_int_mk Try.underlying3 (wf_small k (by omega) (by have := HH.out.le; have := HN.out; omega))
        cases hin : keepB H roots k with
        | true =>
          have hin' := (HK.out k).trans hin
          go_wp2_with (at_lookup; go_must (refine wpList_lookup_own_unit _ rfl _ _ 80 rfl 3 82 keyInt Try.underlying80 (zeroUnit _) B cnt D rfl hmapr _ _ rfl hkey ?_); rw [hin'])
          go_roundw
          case rel =>
            refine ⟨k + 1, by omega, by rw [KK.out]; rfl, ?_, ?_, HX.out.trans (Hx.of_kp ((Kp.refl _).alloc _) (by omega))⟩
            · rw [EU.out, hin, HNN.out]; simp
            · rw [show goneF H.sizes (keepB H roots) (k + 1) = goneF H.sizes (keepB H roots) k from funext (goneF_same (.inl hin))]; exact HK0.out.kp ((Kp.refl _).alloc _)
          case measure => simp only [lenI, KK.out]; omega
        | false =>
          have hin' := (HK.out k).trans hin
          have HA := hid (HK0.out.kp ((Kp.refl wr).alloc (.cells #[] 82)))
          have a1 := HA.out.h1
          have a2 := HA.out.sz hs'.out
          rw [show (goneH H (goneF H.sizes (keepB H roots) k)).cells.length = N from HN.out] at a1
          rw [HSE.out] at a2
          have j2 : k < N := hlt
          have nn := HK0.out.ne
          have n1 := nn.1
          have n3 := nn.2.2.1
          have n4 := nn.2.2.2.1
          have ws : wrap64 ((n : Int) + s) = (n : Int) + s := by unfold wrap64; omega
          clear nn
          go_wp2_with (at_lookup; go_must (refine wpList_lookup_own_unit _ rfl _ _ 80 rfl 3 82 keyInt Try.underlying80 (zeroUnit _) B cnt D rfl hmapr _ _ rfl hkey ?_); rw [hin'])
          obtain ⟨wa, hwa⟩ : ∃ wa, wr.alloc (.cells #[] 82) = wa := ⟨_, rfl⟩
          have hW : RowsG hp gc gs gh N wa := by
            have := RowsG.of HA.out
            rw [show (goneH H (goneF H.sizes (keepB H roots) k)).cells.length = N from HN.out, hwa] at this
            exact this
          rw [hwa] at HA ⊢
          have HWA := hid hwa
          clear hwa a1 a2 q0 q1 q2 qs hmapr hkey hin' HK HMAP
          refine wp_region_two 11 13 gs k gh k ((.int .i64 0)) ((.int .i64 0)) [[], [0], [1], [2], [], [], [5], [6], [7], [], [3, 4], [10], [8, 9], [12]] (fun u => RowsG hp gc gs gh N u)
            [fun (y : Value) (u : World) => y = (.pointer (some ⟨hp, 0, none⟩) : Value),
             fun (y : Value) (u : World) => y = (.pointer (some ⟨hp, 0, none⟩) : Value),
             fun (y : Value) (u : World) => y = (.pointer (some ⟨hp, 1, none⟩) : Value),
             fun (y : Value) (u : World) => y = (.slice (some ⟨gs, 0, none⟩) N N : Value),
             fun (y : Value) (u : World) => y = (.int .i64 k : Value),
             fun (y : Value) (u : World) => y = (.pointer (some ⟨hp, 0, none⟩) : Value),
             fun (y : Value) (u : World) => y = (.pointer (some ⟨hp, 0, none⟩) : Value),
             fun (y : Value) (u : World) => y = (.pointer (some ⟨hp, 2, none⟩) : Value),
             fun (y : Value) (u : World) => y = (.slice (some ⟨gh, 0, none⟩) N N : Value),
             fun (y : Value) (u : World) => y = (.int .i64 k : Value),
             fun (y : Value) (u : World) => y = (.pointer (some ⟨gs, k, none⟩) : Value),
             fun (y : Value) (u : World) => True,
             fun (y : Value) (u : World) => y = (.pointer (some ⟨gh, k, none⟩) : Value),
             fun (y : Value) (u : World) => True]
            (by kernel_rfl) (by kernel_rfl) (by kernel_rfl) (by kernel_rfl) (by kernel_rfl) (fun h => n1 h.1) (hW) (fun u h => h.set n1 n3 n4 (.inl rfl) _) (fun u h => h.set n1 n3 n4 (.inr rfl) _) ⟨fun _ _ _ _ h => h, fun _ _ _ _ h => h, fun _ _ _ _ h => h, fun _ _ _ _ h => h, fun _ _ _ _ h => h, fun _ _ _ _ h => h, fun _ _ _ _ h => h, fun _ _ _ _ h => h, fun _ _ _ _ h => h, fun _ _ _ _ h => h, fun _ _ _ _ h => h, fun _ _ _ _ _ => trivial, fun _ _ _ _ h => h, fun _ _ _ _ _ => trivial, trivial⟩ ⟨?sb0, ?sb1, ?sb2, ?sb3, ?sb4, ?sb5, ?sb6, ?sb7, ?sb8, ?sb9, ?sb10, ?sb11, ?sb12, ?sb13, trivial⟩ ?hEb
          case sb0 =>
            intro x u hg hd K hK
            clear hd
            refine ⟨?_⟩
            simp only [putsFrom, Act.put, List.setIfInBounds_toArray, List.set_cons_zero, List.set_cons_succ, Nat.reduceAdd] at hK ⊢
            go_simp
            exact hK.out _ _ rfl rfl
          case sb1 =>
            intro x u hg hd K hK
            have d0 : (x 0) = .pointer (some ⟨hp, 0, none⟩) := And.left hd
            clear hd
            refine ⟨?_⟩
            simp only [putsFrom, Act.put, List.setIfInBounds_toArray, List.set_cons_zero, List.set_cons_succ, Nat.reduceAdd, d0] at hK ⊢
            go_simp
            exact hK.out _ _ rfl rfl
          case sb2 =>
            intro x u hg hd K hK
            have d1 : (x 1) = .pointer (some ⟨hp, 0, none⟩) := And.left hd
            clear hd
            refine ⟨?_⟩
            simp only [putsFrom, Act.put, List.setIfInBounds_toArray, List.set_cons_zero, List.set_cons_succ, Nat.reduceAdd, d1] at hK ⊢
            go_simp
            exact hK.out _ _ rfl rfl
          case sb3 =>
            intro x u hg hd K hK
            have d2 : (x 2) = .pointer (some ⟨hp, 1, none⟩) := And.left hd
            clear hd
            have q0 := hg.c1
            refine ⟨?_⟩
            simp only [putsFrom, Act.put, List.setIfInBounds_toArray, List.set_cons_zero, List.set_cons_succ, Nat.reduceAdd, d2] at hK ⊢
            go_simp
            exact hK.out _ _ rfl rfl
          case sb4 =>
            intro x u hg hd K hK
            clear hd
            refine ⟨?_⟩
            simp only [putsFrom, Act.put, List.setIfInBounds_toArray, List.set_cons_zero, List.set_cons_succ, Nat.reduceAdd] at hK ⊢
            go_simp
            exact hK.out _ _ rfl rfl
          case sb5 =>
            intro x u hg hd K hK
            clear hd
            refine ⟨?_⟩
            simp only [putsFrom, Act.put, List.setIfInBounds_toArray, List.set_cons_zero, List.set_cons_succ, Nat.reduceAdd] at hK ⊢
            go_simp
            exact hK.out _ _ rfl rfl
          case sb6 =>
            intro x u hg hd K hK
            have d5 : (x 5) = .pointer (some ⟨hp, 0, none⟩) := And.left hd
            clear hd
            refine ⟨?_⟩
            simp only [putsFrom, Act.put, List.setIfInBounds_toArray, List.set_cons_zero, List.set_cons_succ, Nat.reduceAdd, d5] at hK ⊢
            go_simp
            exact hK.out _ _ rfl rfl
          case sb7 =>
            intro x u hg hd K hK
            have d6 : (x 6) = .pointer (some ⟨hp, 0, none⟩) := And.left hd
            clear hd
            refine ⟨?_⟩
            simp only [putsFrom, Act.put, List.setIfInBounds_toArray, List.set_cons_zero, List.set_cons_succ, Nat.reduceAdd, d6] at hK ⊢
            go_simp
            exact hK.out _ _ rfl rfl
          case sb8 =>
            intro x u hg hd K hK
            have d7 : (x 7) = .pointer (some ⟨hp, 2, none⟩) := And.left hd
            clear hd
            have q0 := hg.c2
            refine ⟨?_⟩
            simp only [putsFrom, Act.put, List.setIfInBounds_toArray, List.set_cons_zero, List.set_cons_succ, Nat.reduceAdd, d7] at hK ⊢
            go_simp
            exact hK.out _ _ rfl rfl
          case sb9 =>
            intro x u hg hd K hK
            clear hd
            refine ⟨?_⟩
            simp only [putsFrom, Act.put, List.setIfInBounds_toArray, List.set_cons_zero, List.set_cons_succ, Nat.reduceAdd] at hK ⊢
            go_simp
            exact hK.out _ _ rfl rfl
          case sb10 =>
            intro x u hg hd K hK
            have d3 : (x 3) = .slice (some ⟨gs, 0, none⟩) N N := And.left hd
            have d4 : (x 4) = .int .i64 k := And.left (And.right hd)
            clear hd
            refine ⟨?_⟩
            simp only [putsFrom, Act.put, List.setIfInBounds_toArray, List.set_cons_zero, List.set_cons_succ, Nat.reduceAdd, d3, d4] at hK ⊢
            go_simp
            exact hK.out _ _ rfl rfl
          case sb11 =>
            intro x u hg hd K hK
            have d10 : (x 10) = .pointer (some ⟨gs, k, none⟩) := And.left hd
            clear hd
            obtain ⟨⟨q0, q1⟩, _⟩ := hg.s j2
            refine ⟨?_⟩
            simp only [putsFrom, Act.put, List.setIfInBounds_toArray, List.set_cons_zero, List.set_cons_succ, Nat.reduceAdd, d10] at hK ⊢
            go_simp
            exact hK.out undef _ rfl trivial
          case sb12 =>
            intro x u hg hd K hK
            have d8 : (x 8) = .slice (some ⟨gh, 0, none⟩) N N := And.left hd
            have d9 : (x 9) = .int .i64 k := And.left (And.right hd)
            clear hd
            refine ⟨?_⟩
            simp only [putsFrom, Act.put, List.setIfInBounds_toArray, List.set_cons_zero, List.set_cons_succ, Nat.reduceAdd, d8, d9] at hK ⊢
            go_simp
            exact hK.out _ _ rfl rfl
          case sb13 =>
            intro x u hg hd K hK
            have d12 : (x 12) = .pointer (some ⟨gh, k, none⟩) := And.left hd
            clear hd
            obtain ⟨_, ⟨q0, q1⟩⟩ := hg.s j2
            refine ⟨?_⟩
            simp only [putsFrom, Act.put, List.setIfInBounds_toArray, List.set_cons_zero, List.set_cons_succ, Nat.reduceAdd, d12] at hK ⊢
            go_simp
            exact hK.out undef _ rfl trivial
          intro x he
          have d0 : (x 0) = .pointer (some ⟨hp, 0, none⟩) := And.left he
          have d1 : (x 1) = .pointer (some ⟨hp, 0, none⟩) := And.left (And.right he)
          have d2 : (x 2) = .pointer (some ⟨hp, 1, none⟩) := And.left (And.right (And.right he))
          have d3 : (x 3) = .slice (some ⟨gs, 0, none⟩) N N := And.left (And.right (And.right (And.right he)))
          have d4 : (x 4) = .int .i64 k := And.left (And.right (And.right (And.right (And.right he))))
          have d5 : (x 5) = .pointer (some ⟨hp, 0, none⟩) := And.left (And.right (And.right (And.right (And.right (And.right he)))))
          have d6 : (x 6) = .pointer (some ⟨hp, 0, none⟩) := And.left (And.right (And.right (And.right (And.right (And.right (And.right he))))))
          have d7 : (x 7) = .pointer (some ⟨hp, 2, none⟩) := And.left (And.right (And.right (And.right (And.right (And.right (And.right (And.right he)))))))
          have d8 : (x 8) = .slice (some ⟨gh, 0, none⟩) N N := And.left (And.right (And.right (And.right (And.right (And.right (And.right (And.right (And.right he))))))))
          have d9 : (x 9) = .int .i64 k := And.left (And.right (And.right (And.right (And.right (And.right (And.right (And.right (And.right (And.right he)))))))))
          have d10 : (x 10) = .pointer (some ⟨gs, k, none⟩) := And.left (And.right (And.right (And.right (And.right (And.right (And.right (And.right (And.right (And.right (And.right he))))))))))
          have d12 : (x 12) = .pointer (some ⟨gh, k, none⟩) := And.left (And.right (And.right (And.right (And.right (And.right (And.right (And.right (And.right (And.right (And.right (And.right (And.right he))))))))))))
          clear he
          refine ⟨?_⟩
          simp only [putsFrom, Act.put, List.setIfInBounds_toArray, List.set_cons_zero, List.set_cons_succ, Nat.reduceAdd, d0, d1, d2, d3, d4, d5, d6, d7, d8, d9, d10, d12]
          clear d0 d1 d2 d3 d4 d5 d6 d7 d8 d9 d10 d12
          go_wp2
          go_roundw
          case rel =>
            refine ⟨k + 1, by omega, by rw [KK.out]; rfl, ?_, ?_, ?_⟩
            · rw [EU.out, hin, HNN.out, HSE.out]; simp; omega
            · have := (HA.out.kp (Kp.refl wa).drew).two k
              unfold goneH at this ⊢
              dsimp only at this ⊢
              rw [lessL_set (goneF_step hin (by rw [HSE.out]; omega)), lessL_set (goneF_step hin (by rw [HSE.out]; omega))] at this
              exact this
            · refine (HX.out.trans ?_)
              rw [← HWA.out]
              exact ((Hx.of_kp (((Kp.refl wr).alloc _).drew) (by omega)).setCell r2.1 r2.2 _).setCell r3.1 r3.2 _
          case measure => simp only [lenI, KK.out]; omega
    · obtain rfl : k = N := by omega
      have i1 : ¬ ((k : Int) < (k : Int)) := by omega
      have hend := hid hlz'
      clear hlz' hNe ec hlz hlh hle
      go_wp2
      go_ret
      refine ⟨?_, ⟨gc, gs, gh, ?_, r1, r2, r3, r4⟩, (Hx.of_kp HK1.out (by omega)).trans HX.out⟩
      · unfold collectN; rw [hend.out]; rfl
      · unfold collectH; rw [hend.out]; exact HK0.out
end Go.Proofs.Ytffjfkmnlfndkaa
