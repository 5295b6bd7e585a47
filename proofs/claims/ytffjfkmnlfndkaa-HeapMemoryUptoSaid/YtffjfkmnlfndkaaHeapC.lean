/-
  Package heap: mark, Collect. Condition: the heap has at most 4000 cells, and there are at most four million roots.
-/
import Derived.Test.YtffjfkmnlfndkaaHeapB
import Derived.Test.YtffjfkmnlfndkaaBlk
import Derived.Maps.OwnSet
import Derived.Maps.OwnOps
import Derived.Maps.AppendAt
namespace Go.Proofs.Ytffjfkmnlfndkaa
open Go.RowKit Go.Maps
set_option linter.unusedVariables false

theorem wf_small (c : Int) (h0 : 0 ≤ c) (h1 : c < 4000) : (Lit.int .i64 c).wf = true := WalkArith.wf_i64 (by omega)
theorem keyInt : Keyed Try.prog 3 := int_keyed Try.underlying3
theorem zeroUnit (w : World) : (zeroValue 82).run Try.prog w = .ok (.agg #[]) w := by kernel_rfl
/-- How many cells stand in blocks that were not seen. -/
def unseenGo (S : List Int) (f : Nat → Bool) : Nat → Nat
  | 0 => 0
  | n + 1 => unseenGo S f n + (if f n then 0 else (sz S n).toNat)
theorem unseen_same {S : List Int} {f g : Nat → Bool} : ∀ n, (∀ k, k < n → f k = g k) → unseenGo S f n = unseenGo S g n
  | 0, _ => rfl
  | n + 1, h => by unfold unseenGo; rw [unseen_same n (fun k hk => h k (by omega)), h n (by omega)]
theorem unseen_add {S : List Int} {f g : Nat → Bool} {j : Nat} (hj : f j = false) (hg : ∀ k, g k = (f k || k == j)) : ∀ n, j < n → unseenGo S f n = unseenGo S g n + (sz S j).toNat
  | 0, h => by omega
  | n + 1, h => by
    unfold unseenGo
    rcases Nat.lt_or_ge j n with h1 | h1
    · rw [unseen_add hj hg n h1, hg n]
      have : (n == j) = false := by simp; omega
      rw [this, Bool.or_false]; omega
    · have e : n = j := by omega
      subst e
      rw [hj, hg n, hj, unseen_same (g := g) n (fun k hk => by rw [hg k]; have : (k == n) = false := by simp; omega
                                                               rw [this, Bool.or_false])]
      simp
theorem unseen_le {S : List Int} {f : Nat → Bool} (h : ∀ k, sz S k ≤ 4000) : ∀ n, unseenGo S f n ≤ n * 4000
  | 0 => by simp [unseenGo]
  | n + 1 => by
    have := unseen_le (f := f) h n
    have h2 := h n
    have e : (n + 1) * 4000 = n * 4000 + 4000 := Nat.succ_mul _ _
    have h3 : (if f n then 0 else (sz S n).toNat) ≤ 4000 := by split <;> omega
    show unseenGo S f n + (if f n then 0 else (sz S n).toNat) ≤ _
    rw [e]; exact Nat.add_le_add (by assumption) h3
/-- The datum of a map is one. -/
theorem dat_of {w : World} {b n : Nat} {D : DataW Unit} (h : w.ownsMap Try.prog 3 unitElem b n D) : (Classical.epsilon fun D : DataW Unit => ∃ n, w.ownsMap Try.prog 3 unitElem b n D) = D := by
  obtain ⟨n', es', clock', hb', _, _, hD'⟩ := Classical.epsilon_spec (p := fun D : DataW Unit => ∃ n, w.ownsMap Try.prog 3 unitElem b n D) ⟨D, n, h⟩
  obtain ⟨es, clock, hb, _, _, hD⟩ := h
  rw [hb] at hb'
  injection hb' with hb'
  injection hb' with e1 e2
  subst e1
  rw [hD', hD]
def inD (D : DataW Unit) (k : Nat) : Bool := Maps.has D (.int .i64 (k : Int))
theorem ownsRow_take {w : World} {base : Nat} {e : TypeId} {size n c k : Nat} {A : Option Addr} {xs : List Value} (h : w.ownsRow base e size (.slice A n c) n xs) (hk : k ≤ n) : w.ownsRow base e size (.slice A k c) k (xs.take (k * size)) := by
  obtain ⟨h1, h2⟩ := h
  have hle : k * size ≤ n * size := Nat.mul_le_mul_right _ hk
  refine ⟨by rw [List.length_take, h1]; omega, ?_⟩
  rcases h2 with ⟨h2, h3⟩ | ⟨g, cap, cur, hv, hb, hg, hnc, hm, hsz, htk⟩
  · injection h2 with e1 e2 e3
    subst e1 e3
    have : k = 0 := by omega
    subst this
    exact .inl ⟨rfl, rfl⟩
  · injection hv with e1 e2 e3
    subst e1 e3
    refine .inr ⟨g, c, cur, rfl, hb, hg, by omega, hm, hsz, ?_⟩
    rw [← htk, List.take_take, Nat.min_eq_left hle]
theorem OCells.pop {w : World} {base c : Nat} {A : Option Addr} {l : List CellM} {m : CellM} (h : OCells w base (.slice A (l.length + 1) c) (l ++ [m])) : OCells w base (.slice A l.length c) l := by
  obtain ⟨xs, h1, h2⟩ := h
  rw [List.length_append, List.length_singleton] at h1
  have h3 := Chunk.take l.length h2
  rw [List.take_left] at h3
  exact ⟨_, ownsRow_take h1 (Nat.le_succ _), h3⟩
theorem OCells.app {w w' : World} {base : Nat} {v' : Value} {l l' : List CellM} {xs ys : List Value} (hx : Chunk CeC 2 w xs l) (hy : Chunk CeC 2 w ys l') (h : w'.ownsRow base 24 2 v' (l.length + l'.length) (xs ++ ys)) : OCells w' base v' (l ++ l') := by
  refine ⟨xs ++ ys, by rw [List.length_append]; exact h, Chunk.mono (w := w) (w' := w') (fun _ _ h => h) (Chunk.append hy hx)⟩
theorem isB_iff {H : HeapM} (hl : H.sizes.length = H.cells.length) (k : Nat) : isB H (k : Int) = true ↔ 0 < sz H.sizes k := by
  unfold isB sz
  rw [decide_eq_true_eq]
  constructor
  · rintro ⟨_, _, h⟩; simpa using h
  · intro h
    refine ⟨by omega, ?_, by simpa using h⟩
    have := sound_lt (S := H.sizes) (q := k) h
    omega
theorem isB_neg {H : HeapM} {p : Int} (h : isB H p = true) : ∃ k : Nat, p = k ∧ k < H.cells.length := by
  unfold isB at h
  obtain ⟨h0, h1, _⟩ := of_decide_eq_true h
  exact ⟨p.toNat, by omega, by omega⟩
/-- mark's loop: what stands at its head. -/
structure MarkAt (w : World) (H : HeapM) (roots : List CellM) (B base lim : Nat) (v : Value) (wr : World) (work : List CellM) (cnt : Nat) (D : DataW Unit) : Prop where
  row : OCells wr base v work
  map : wr.ownsMap Try.prog 3 unitElem B cnt D
  mk_ : Marked H.sizes H.cells roots work (fun k => inD D k = true)
  big : work.length + unseenGo H.sizes (inD D) H.sizes.length ≤ lim
  cnt_ : cnt + unseenGo H.sizes (inD D) H.sizes.length ≤ 16000000
  kp : Below B w wr
  ge : base ≤ wr.heap.size
  old : w.heap.size = B
  base_ : base = B + 1
def lenV (v : Value) : Nat := match v with | .slice _ n _ => n | _ => 0
theorem last_of {α : Type} (l : List α) (h : 0 < l.length) : ∃ r a, l = r ++ [a] := ⟨l.dropLast, l.getLast (by intro e; subst e; simp at h), (List.dropLast_concat_getLast _).symm⟩
theorem MarkAt.pop {w : World} {H : HeapM} {roots : List CellM} {B base lim c cnt : Nat} {A : Option Addr} {wr w2 : World} {rest : List CellM} {m : CellM} {D : DataW Unit} (h : MarkAt w H roots B base lim (.slice A (rest.length + 1) c) wr (rest ++ [m]) cnt D) (hc : ∀ k, Ref H.sizes m k → inD D k = true) (hk : Kp wr w2) : MarkAt w H roots B base lim (.slice A rest.length c) w2 rest cnt D := by
  have hbl : B < wr.heap.size := h.map.lt
  refine ⟨h.row.pop.kp hk, ?_, h.mk_.pop hc, ?_, h.cnt_, Below.trans h.kp (Below.mono hk (by omega)), Nat.le_trans h.ge hk.le, h.old, h.base_⟩
  · obtain ⟨es, clock, h1, h2⟩ := h.map
    exact ⟨es, clock, by rw [hk.block _ hbl]; exact h1, h2⟩
  · have := h.big; rw [List.length_append, List.length_singleton] at this; omega
theorem inD_put {D : DataW Unit} (hD : Maps.IsMap D) (j : Nat) (d : DataW Unit) (k : Nat) : inD (D.put (.int .i64 (j : Int)) d) k = (inD D k || k == j) := by
  unfold inD
  by_cases h : k = j
  · subst h
    rw [has_put_same hD (show WideAt.IsKeyLit (Lit.int .i64 (k : Int)) from trivial)]; simp
  · rw [has_put_other (by intro e; injection e with _ e; exact h (by omega))]
    have : (k == j) = false := by simpa using h
    rw [this, Bool.or_false]
theorem cellsOf_le (S : List Int) (C : List CellM) (j : Nat) (h : 0 < sz S j) : (cellsOf S C j).length + 1 ≤ (sz S j).toNat := by
  unfold cellsOf; rw [List.length_take]; omega
theorem MarkAt.push {w : World} {H : HeapM} {roots : List CellM} {B base lim c cnt j : Nat} {A : Option Addr} {wr w2 : World} {rest : List CellM} {m : CellM} {D d : DataW Unit} {v2 : Value} (h : MarkAt w H roots B base lim (.slice A (rest.length + 1) c) wr (rest ++ [m]) cnt D) (hr : Ref H.sizes m j) (hn : inD D j = false)
    (hrow : OCells w2 base v2 (rest ++ cellsOf H.sizes H.cells j)) (hmap : w2.ownsMap Try.prog 3 unitElem B (cnt + 1) (D.put (.int .i64 (j : Int)) d)) (hb : Below B w w2) (hge : base ≤ w2.heap.size) : MarkAt w H roots B base lim v2 w2 (rest ++ cellsOf H.sizes H.cells j) (cnt + 1) (D.put (.int .i64 (j : Int)) d) ∧ lenV v2 + unseenGo H.sizes (inD (D.put (.int .i64 (j : Int)) d)) H.sizes.length < rest.length + 1 + unseenGo H.sizes (inD D) H.sizes.length := by
  have hD := h.map.isMap
  have hg := inD_put hD j d
  have hu := unseen_add (S := H.sizes) hn hg H.sizes.length (sound_lt hr.2.2)
  have hc := cellsOf_le H.sizes H.cells j hr.2.2
  have h1 := h.big; have h2 := h.cnt_
  rw [List.length_append, List.length_singleton] at h1
  have hlen : lenV v2 = (rest ++ cellsOf H.sizes H.cells j).length := by
    obtain ⟨A2, c2, rfl⟩ := hrow.form; rfl
  refine ⟨⟨hrow, hmap, h.mk_.push hr (fun k => by rw [hg k]; simp), by rw [List.length_append]; omega, by omega, hb, hge, h.old, h.base_⟩, ?_⟩
  rw [hlen, List.length_append]; omega
def MarkPost (H : HeapM) (roots : List CellM) (w : World) (e : Ending) (w' : World) : Prop := (∃ B cnt, ∃ D : DataW Unit, e = .returned (.map (some B)) ∧ w.heap.size ≤ B ∧ w'.ownsMap Try.prog 3 unitElem B cnt D ∧ ∀ k : Nat, inD D k = true ↔ Reach H.sizes H.cells roots k) ∧ Kp w w'
set_option maxRecDepth 20000 in
set_option maxHeartbeats 4000000 in
theorem mark_at (w : World) (hp gc gs gh : Nat) (H : HeapM) (rv : Value) (roots : List CellM) (h : HeapAt w hp gc gs gh H) (hs : SoundS H.sizes) (hr : RdCells w rv roots) (hb : roots.length ≤ 4000000) :
    Calls Try.prog 44 #[.pointer (some ⟨hp, 0, none⟩), rv] w (MarkPost H roots w) := by
  have HH := hid h; have HS := hid hs; have HR := hid hr
  have hle := h.le
  have hlz := h.lsz
  have hsz : ∀ k, sz H.sizes k ≤ 4000 := fun k => by
    rcases Nat.lt_or_ge k H.sizes.length with h1 | h1
    · exact (h.ok _ (List.mem_of_getElem? (sz_at h1))).2
    · rw [sz_out h1]; omega
  have hun : unseenGo H.sizes (inD (.map [])) H.sizes.length ≤ 16000000 := by
    have := unseen_le (f := inD (.map [])) hsz H.sizes.length
    have : H.sizes.length * 4000 ≤ 4000 * 4000 := Nat.mul_le_mul_right _ (by omega)
    omega
  have HU := hid hun
  have hmm := @run_makeMap Try.prog
  obtain ⟨A, c, rfl, hc⟩ := RdL.form hr
  clear h hs hr hsz hun
  go_enter Try.func44, Try.ntmps44
  go_wp2_with (go_at_call 43; go_must (refine (clone_cells _ roots (w.alloc (.map #[] 0)) (RdL.kp CeC.kp HR.out ((Kp.refl _).alloc _)) (by omega)).mono ?_); rintro e w1 ⟨⟨v1, rfl, ho1⟩, hk1⟩)
  go_loopw [6] (fun v wr => ∃ work cnt D, MarkAt w H roots w.heap.size (w.heap.size + 1) (roots.length + 16000000) v wr work cnt D) (fun v wr => lenV v + unseenGo H.sizes (inD (Classical.epsilon fun D : DataW Unit => ∃ n, wr.ownsMap Try.prog 3 unitElem w.heap.size n D)) H.sizes.length)
  case atStart =>
    refine ⟨roots, 0, .map [], ho1.base (by simp), ?_, ?_, by have := HU.out; omega, by have := HU.out; omega, Below.trans ((Kp.refl _).alloc _) (Below.mono hk1 (by simp)), by have := hk1.le; simpa using this, rfl, rfl⟩
    · obtain ⟨es, clock, h1, h2⟩ := World.ownsMap_made w Try.prog 3 (unitElem (H := Unit))
      exact ⟨es, clock, by rw [hk1.block _ (by simp)]; exact h1, h2⟩
    · have e : (fun k => inD (DataW.map []) k = true) = fun _ => False := by funext k; simp [inD, Maps.has]
      rw [e]; exact Marked.start _ _ _
  case round =>
    obtain ⟨work, cnt, D, hM⟩ := hrel
    have HM := hid hM
    obtain ⟨A1, c1, rfl⟩ := hM.row.form
    clear hM
    rcases Nat.eq_zero_or_pos work.length with h0 | h0
    · have i1 : ¬ ((0 : Int) < (work.length : Int)) := by omega
      obtain rfl := List.eq_nil_of_length_eq_zero h0
      go_wp2
      go_ret
      exact ⟨⟨_, cnt, D, rfl, Nat.le_refl _, HM.out.map, fun k => HM.out.mk_.done k⟩, HM.out.kp⟩
    · obtain ⟨rest, m, rfl⟩ := last_of work h0
      have hlen : (rest ++ [m]).length = rest.length + 1 := by simp
      rw [hlen] at HM ⊢
      obtain ⟨b1, o1, rfl, hb1, q0, q1⟩ := rd_cell HM.out.row.rd (i := rest.length) (m := m) (by simp)
      have hcap : rest.length + 1 ≤ c1 := by
        obtain ⟨xs, ⟨_, h2⟩, _⟩ := HM.out.row
        rcases h2 with ⟨h2, _⟩ | ⟨g, cap, cur, hv, _, _, hnc, _⟩
        · cases h2
        · injection hv with e1 e2 e3; subst e3; rw [← hlen]; exact hnc
      have i0 : (0 : Int) < ((rest.length + 1 : Nat) : Int) := by omega
      have q1' := q1
      rw [show o1 + rest.length * 2 + 1 = o1 + (rest.length * 2 + 1) by omega] at q1'
      have HMs := HM.out
      have hbs : w.heap.size < wr.heap.size := by have := HMs.ge; omega
      have hr20 : rest.length ≤ 20000000 := by have := HMs.big; rw [hlen] at this; omega
      have e20 : wrap64 (rest.length : Int) = (rest.length : Int) := by unfold wrap64; omega
      have e21 : ((rest.length : Int)).toNat = rest.length := Int.toNat_natCast _
      have HHr : Hid (HeapAt wr hp gc gs gh H) := hid (HH.out.kp HMs.kp)
      clear HMs hlen h0
      have HPop : Hid ((∀ k, Ref H.sizes m k → inD D k = true) → ∀ w2 : World, Kp wr w2 → MarkAt w H roots w.heap.size (w.heap.size + 1) (roots.length + 16000000) (.slice (some ⟨b1, o1, none⟩) rest.length c1) w2 rest cnt D) := hid fun h w2 hk => HM.out.pop h hk
      have HPR := hid (HM.out.row.pop)
      have hD0 := dat_of HM.out.map
      by_cases ht : m.tag = 6
      · have bt : (m.tag != 6) = false := by simp [ht]
        cases hb : isB H m.n with
        | false =>
          have hno : ∀ k, Ref H.sizes m k → inD D k = true := fun k hr => by
            have := (isB_iff HHr.out.lsz k).2 hr.2.2
            rw [← hr.2.1, hb] at this; cases this
          have HNO := hid hno
          have HB := hid hb
          clear hb hno
          go_wp2_with (go_at_call 42; go_must (refine (is_any _ hp gc gs gh H m.n (HHr.out.kp ((Kp.refl _).alloc _))).mono ?_); rintro e w2 ⟨rfl, rfl⟩; rw [HB.out])
          go_roundw
          case rel => exact ⟨rest, cnt, D, HPop.out HNO.out _ ((Kp.refl _).alloc _)⟩
          case measure =>
            have hM2 := HPop.out HNO.out _ ((Kp.refl wr).alloc (.cells #[.int .i64 6, .int .i64 m.n] 24))
            rw [dat_of hM2.map, hD0]
            simp [lenV]
        | true =>
          obtain ⟨j, hj, hjl⟩ := isB_neg hb
          have HJ := hid hj
          have hkey : keyOf Try.prog 3 (.int .i64 m.n) = some (.int .i64 (j : Int)) := by rw [hj]; exact Maps.keyOf_int_mk Try.underlying3 (wf_small j (by omega) (by have := HH.out.le; omega))
          have hMp := HM.out.map
          have hpos : 0 < sz H.sizes j := (isB_iff HHr.out.lsz j).1 (by rw [← hj]; exact hb)
          have HPOS := hid hpos
          have HB := hid hb
          clear hb hpos hj
          have hmap1 := hMp.alloc (.cells #[.int .i64 6, .int .i64 m.n] 24)
          cases hin : inD D j with
          | true =>
            have hin' : Maps.has D (.int .i64 (j : Int)) = true := hin
            go_wp2_with first | (go_at_call 42; go_must (refine (is_any _ hp gc gs gh H m.n (HHr.out.kp ((Kp.refl _).alloc _))).mono ?_); rintro e w2 ⟨rfl, rfl⟩; rw [HB.out]) | (at_lookup; go_must (refine wpList_lookup_own_unit _ rfl _ _ 80 rfl 3 82 keyInt Try.underlying80 (zeroUnit _) w.heap.size cnt D rfl hmap1 _ _ rfl hkey ?_); rw [hin'])
            have hno : ∀ k, Ref H.sizes m k → inD D k = true := fun k hr => by
              have e : k = j := by have := hr.2.1; have := HJ.out; omega
              rw [e]; exact hin
            go_roundw
            case rel => exact ⟨rest, cnt, D, HPop.out hno _ (((Kp.refl _).alloc _).alloc _)⟩
            case measure =>
              have hM2 := HPop.out hno _ (((Kp.refl wr).alloc (.cells #[.int .i64 6, .int .i64 m.n] 24)).alloc (.cells #[] 82))
              rw [dat_of hM2.map, hD0]
              simp [lenV]
          | false =>
            have hin' : Maps.has D (.int .i64 (j : Int)) = false := hin
            have hmap2 := hmap1.alloc (.cells #[] 82)
            have hcn : cnt < maxLen := by have := HM.out.cnt_; unfold maxLen; omega
            go_wp2_with first | (go_at_call 42; go_must (refine (is_any _ hp gc gs gh H m.n (HHr.out.kp ((Kp.refl _).alloc _))).mono ?_); rintro e w2 ⟨rfl, rfl⟩; rw [HB.out]) | (at_lookup; go_must (refine wpList_lookup_own_unit _ rfl _ _ 80 rfl 3 82 keyInt Try.underlying80 (zeroUnit _) w.heap.size cnt D rfl hmap1 _ _ rfl hkey ?_); rw [hin']) | (at_mapUpdate; go_must (refine wpList_mapUpdate_in _ rfl _ _ _ 80 rfl 3 82 keyInt Try.underlying80 unitElem w.heap.size cnt D rfl hmap2 hcn _ _ _ rfl rfl hkey (.agg []) [] unitElem_mk ?_); intro w3 hown3 hturn3)
            have hg3 := hturn3.grown
            have hB3 : Below w.heap.size w w3 := Below.one (Below.trans HM.out.kp (Below.mono (((Kp.refl wr).alloc _).alloc _) (Nat.le_of_lt hbs))) hg3 (Nat.le_refl _) (by simp; omega)
            have hc1 : w3.cell? ⟨wr.heap.size, 1, none⟩ = some (.int .i64 (j : Int)) := by
              rw [← HJ.out]
              exact blk_cell (grown_blk hg3 (blk_old (blk_new wr _) _) (by intro e; injection e with e; omega)) rfl
            have hrow3 : OCells w3 (w.heap.size + 1) (.slice (some ⟨b1, o1, none⟩) rest.length c1) rest := (HPR.out.kp (((Kp.refl wr).alloc _).alloc _)).grown hg3 (fun g e => by injection e with e; omega)
            have HR3 := hid (HH.out.kp hB3)
            have HC1 := hid hc1; have HB3 := hid hB3; have HOWN3 := hid hown3; have HROW3 := hid hrow3
            have hg3l : wr.heap.size < w3.heap.size := by have := hg3.size; simp at this; omega
            obtain ⟨s, hse⟩ : ∃ s, sz H.sizes j = s := ⟨_, rfl⟩
            have hs : H.sizes[j]? = some (sz H.sizes j) := sz_at (sound_lt HPOS.out)
            have hfit := HR3.out.fit j _ hs
            have hok := HR3.out.ok _ (List.mem_of_getElem? hs)
            have qs := HR3.out.sz hs
            have hpos := HPOS.out
            rw [hse] at hfit hok qs hpos
            obtain ⟨n, rfl⟩ : ∃ n : Nat, s = (n : Int) + 1 := ⟨(s - 1).toNat, by omega⟩
            obtain ⟨N, hN⟩ : ∃ N, H.cells.length = N := ⟨_, rfl⟩
            obtain ⟨C, hC⟩ : ∃ C, cellsOf H.sizes H.cells j = C := ⟨_, rfl⟩
            have hCe : (H.cells.drop (j + 1)).take n = C := by rw [← hC]; unfold cellsOf; rw [hse]; rfl
            rw [hN] at hfit
            have hCl : C.length = n := by rw [← hCe, List.length_take, List.length_drop, hN]; omega
            have HSE := hid hse; have HN := hid hN; have HC := hid hC; have HCE := hid hCe; have HQS := hid qs
            have q0' := HR3.out.h0; have q1'' := HR3.out.h1
            rw [hN] at q0' q1''
            have HQ0 := hid q0'; have HQ1 := hid q1''
            have i1 : (j : Int) < (N : Int) := by omega
            have HPU := hid (fun (w2 : World) (v2 : Value) a b c d => HM.out.push (w2 := w2) (v2 := v2) (d := DataW.agg []) ⟨ht, HJ.out, HPOS.out⟩ hin a b c d)
            clear hse hN hC hCe qs q0' q1'' hc1 hB3 hown3 hrow3 hs hg3 hturn3 hmap1 hmap2 hMp hkey hin' q0 q1 q1'
            refine wp_region_row 20 [[], [], [1], [2], [3], [], [5], [6], [], [8], [], [10], [11], [12], [], [14], [13, 15], [16], [9, 17], [4, 7, 18], [0, 19], [20]] (fun u => Kp w3 u)
              [fun (y : Value) (u : World) => y = (.slice (some ⟨b1, o1, none⟩) rest.length c1 : Value),
               fun (y : Value) (u : World) => y = (.pointer (some ⟨hp, 0, none⟩) : Value),
               fun (y : Value) (u : World) => y = (.pointer (some ⟨hp, 0, none⟩) : Value),
               fun (y : Value) (u : World) => y = (.pointer (some ⟨hp, 0, none⟩) : Value),
               fun (y : Value) (u : World) => y = (.slice (some ⟨gc, 0, none⟩) N N : Value),
               fun (y : Value) (u : World) => y = (.pointer (some ⟨wr.heap.size, 1, none⟩) : Value),
               fun (y : Value) (u : World) => y = (.int .i64 j : Value),
               fun (y : Value) (u : World) => y = (.int .i64 ((j : Int) + 1) : Value),
               fun (y : Value) (u : World) => y = (.pointer (some ⟨wr.heap.size, 1, none⟩) : Value),
               fun (y : Value) (u : World) => y = (.int .i64 j : Value),
               fun (y : Value) (u : World) => y = (.pointer (some ⟨hp, 0, none⟩) : Value),
               fun (y : Value) (u : World) => y = (.pointer (some ⟨hp, 0, none⟩) : Value),
               fun (y : Value) (u : World) => y = (.pointer (some ⟨hp, 1, none⟩) : Value),
               fun (y : Value) (u : World) => y = (.slice (some ⟨gs, 0, none⟩) N N : Value),
               fun (y : Value) (u : World) => y = (.pointer (some ⟨wr.heap.size, 1, none⟩) : Value),
               fun (y : Value) (u : World) => y = (.int .i64 j : Value),
               fun (y : Value) (u : World) => y = (.pointer (some ⟨gs, j, none⟩) : Value),
               fun (y : Value) (u : World) => y = (.int .i64 ((n : Int) + 1) : Value),
               fun (y : Value) (u : World) => y = (.int .i64 ((j : Int) + ((n : Int) + 1)) : Value),
               fun (y : Value) (u : World) => RdCells u y C]
              (by kernel_rfl) (by kernel_rfl) (by kernel_rfl) (by kernel_rfl) (by kernel_rfl) ((Kp.refl _).drew) (fun _ _ hk h => h.trans hk) ⟨fun _ _ _ _ h => h, fun _ _ _ _ h => h, fun _ _ _ _ h => h, fun _ _ _ _ h => h, fun _ _ _ _ h => h, fun _ _ _ _ h => h, fun _ _ _ _ h => h, fun _ _ _ _ h => h, fun _ _ _ _ h => h, fun _ _ _ _ h => h, fun _ _ _ _ h => h, fun _ _ _ _ h => h, fun _ _ _ _ h => h, fun _ _ _ _ h => h, fun _ _ _ _ h => h, fun _ _ _ _ h => h, fun _ _ _ _ h => h, fun _ _ _ _ h => h, fun _ _ _ _ h => h, fun _ _ _ hk h => RdL.kp CeC.kp h hk, trivial⟩ ⟨?sb0, ?sb1, ?sb2, ?sb3, ?sb4, ?sb5, ?sb6, ?sb7, ?sb8, ?sb9, ?sb10, ?sb11, ?sb12, ?sb13, ?sb14, ?sb15, ?sb16, ?sb17, ?sb18, ?sb19, trivial⟩ ?hEb
            case sb0 =>
              intro x u hg hd K hK
              clear hd
              refine ⟨?_⟩
              simp only [List.take_succ_cons, List.take_zero, putsFrom, Act.put, List.setIfInBounds_toArray, List.set_cons_zero, List.set_cons_succ, Nat.reduceAdd] at hK ⊢
              go_simp
              exact hK.out _ _ (Kp.refl _) rfl
            case sb1 =>
              intro x u hg hd K hK
              clear hd
              refine ⟨?_⟩
              simp only [List.take_succ_cons, List.take_zero, putsFrom, Act.put, List.setIfInBounds_toArray, List.set_cons_zero, List.set_cons_succ, Nat.reduceAdd] at hK ⊢
              go_simp
              exact hK.out _ _ (Kp.refl _) rfl
            case sb2 =>
              intro x u hg hd K hK
              have d1 : (x 1) = .pointer (some ⟨hp, 0, none⟩) := And.left hd
              clear hd
              refine ⟨?_⟩
              simp only [List.take_succ_cons, List.take_zero, putsFrom, Act.put, List.setIfInBounds_toArray, List.set_cons_zero, List.set_cons_succ, Nat.reduceAdd, d1] at hK ⊢
              go_simp
              exact hK.out _ _ (Kp.refl _) rfl
            case sb3 =>
              intro x u hg hd K hK
              have d2 : (x 2) = .pointer (some ⟨hp, 0, none⟩) := And.left hd
              clear hd
              refine ⟨?_⟩
              simp only [List.take_succ_cons, List.take_zero, putsFrom, Act.put, List.setIfInBounds_toArray, List.set_cons_zero, List.set_cons_succ, Nat.reduceAdd, d2] at hK ⊢
              go_simp
              exact hK.out _ _ (Kp.refl _) rfl
            case sb4 =>
              intro x u hg hd K hK
              have d3 : (x 3) = .pointer (some ⟨hp, 0, none⟩) := And.left hd
              clear hd
              have q4 := (HR3.out.kp hg).h0
              rw [HN.out] at q4
              refine ⟨?_⟩
              simp only [List.take_succ_cons, List.take_zero, putsFrom, Act.put, List.setIfInBounds_toArray, List.set_cons_zero, List.set_cons_succ, Nat.reduceAdd, d3] at hK ⊢
              go_simp
              exact hK.out _ _ (Kp.refl _) rfl
            case sb5 =>
              intro x u hg hd K hK
              clear hd
              refine ⟨?_⟩
              simp only [List.take_succ_cons, List.take_zero, putsFrom, Act.put, List.setIfInBounds_toArray, List.set_cons_zero, List.set_cons_succ, Nat.reduceAdd] at hK ⊢
              go_simp
              exact hK.out _ _ (Kp.refl _) rfl
            case sb6 =>
              intro x u hg hd K hK
              have d5 : (x 5) = .pointer (some ⟨wr.heap.size, 1, none⟩) := And.left hd
              clear hd
              have q6 := cell_kp hg hg3l HC1.out
              refine ⟨?_⟩
              simp only [List.take_succ_cons, List.take_zero, putsFrom, Act.put, List.setIfInBounds_toArray, List.set_cons_zero, List.set_cons_succ, Nat.reduceAdd, d5] at hK ⊢
              go_simp
              exact hK.out _ _ (Kp.refl _) rfl
            case sb7 =>
              intro x u hg hd K hK
              have d6 : (x 6) = .int .i64 j := And.left hd
              clear hd
              have e1 : IntKind.i64.wrap ((j : Int) + 1) = (j : Int) + 1 := by rw [IntKind.wrap_i64]; omega
              refine ⟨?_⟩
              simp only [List.take_succ_cons, List.take_zero, putsFrom, Act.put, List.setIfInBounds_toArray, List.set_cons_zero, List.set_cons_succ, Nat.reduceAdd, d6] at hK ⊢
              go_simp
              exact hK.out _ _ (Kp.refl _) rfl
            case sb8 =>
              intro x u hg hd K hK
              clear hd
              refine ⟨?_⟩
              simp only [List.take_succ_cons, List.take_zero, putsFrom, Act.put, List.setIfInBounds_toArray, List.set_cons_zero, List.set_cons_succ, Nat.reduceAdd] at hK ⊢
              go_simp
              exact hK.out _ _ (Kp.refl _) rfl
            case sb9 =>
              intro x u hg hd K hK
              have d8 : (x 8) = .pointer (some ⟨wr.heap.size, 1, none⟩) := And.left hd
              clear hd
              have q6 := cell_kp hg hg3l HC1.out
              refine ⟨?_⟩
              simp only [List.take_succ_cons, List.take_zero, putsFrom, Act.put, List.setIfInBounds_toArray, List.set_cons_zero, List.set_cons_succ, Nat.reduceAdd, d8] at hK ⊢
              go_simp
              exact hK.out _ _ (Kp.refl _) rfl
            case sb10 =>
              intro x u hg hd K hK
              clear hd
              refine ⟨?_⟩
              simp only [List.take_succ_cons, List.take_zero, putsFrom, Act.put, List.setIfInBounds_toArray, List.set_cons_zero, List.set_cons_succ, Nat.reduceAdd] at hK ⊢
              go_simp
              exact hK.out _ _ (Kp.refl _) rfl
            case sb11 =>
              intro x u hg hd K hK
              have d10 : (x 10) = .pointer (some ⟨hp, 0, none⟩) := And.left hd
              clear hd
              refine ⟨?_⟩
              simp only [List.take_succ_cons, List.take_zero, putsFrom, Act.put, List.setIfInBounds_toArray, List.set_cons_zero, List.set_cons_succ, Nat.reduceAdd, d10] at hK ⊢
              go_simp
              exact hK.out _ _ (Kp.refl _) rfl
            case sb12 =>
              intro x u hg hd K hK
              have d11 : (x 11) = .pointer (some ⟨hp, 0, none⟩) := And.left hd
              clear hd
              refine ⟨?_⟩
              simp only [List.take_succ_cons, List.take_zero, putsFrom, Act.put, List.setIfInBounds_toArray, List.set_cons_zero, List.set_cons_succ, Nat.reduceAdd, d11] at hK ⊢
              go_simp
              exact hK.out _ _ (Kp.refl _) rfl
            case sb13 =>
              intro x u hg hd K hK
              have d12 : (x 12) = .pointer (some ⟨hp, 1, none⟩) := And.left hd
              clear hd
              have q4 := (HR3.out.kp hg).h1
              rw [HN.out] at q4
              refine ⟨?_⟩
              simp only [List.take_succ_cons, List.take_zero, putsFrom, Act.put, List.setIfInBounds_toArray, List.set_cons_zero, List.set_cons_succ, Nat.reduceAdd, d12] at hK ⊢
              go_simp
              exact hK.out _ _ (Kp.refl _) rfl
            case sb14 =>
              intro x u hg hd K hK
              clear hd
              refine ⟨?_⟩
              simp only [List.take_succ_cons, List.take_zero, putsFrom, Act.put, List.setIfInBounds_toArray, List.set_cons_zero, List.set_cons_succ, Nat.reduceAdd] at hK ⊢
              go_simp
              exact hK.out _ _ (Kp.refl _) rfl
            case sb15 =>
              intro x u hg hd K hK
              have d14 : (x 14) = .pointer (some ⟨wr.heap.size, 1, none⟩) := And.left hd
              clear hd
              have q6 := cell_kp hg hg3l HC1.out
              refine ⟨?_⟩
              simp only [List.take_succ_cons, List.take_zero, putsFrom, Act.put, List.setIfInBounds_toArray, List.set_cons_zero, List.set_cons_succ, Nat.reduceAdd, d14] at hK ⊢
              go_simp
              exact hK.out _ _ (Kp.refl _) rfl
            case sb16 =>
              intro x u hg hd K hK
              have d13 : (x 13) = .slice (some ⟨gs, 0, none⟩) N N := And.left hd
              have d15 : (x 15) = .int .i64 j := And.left (And.right hd)
              clear hd
              refine ⟨?_⟩
              simp only [List.take_succ_cons, List.take_zero, putsFrom, Act.put, List.setIfInBounds_toArray, List.set_cons_zero, List.set_cons_succ, Nat.reduceAdd, d13, d15] at hK ⊢
              go_simp
              exact hK.out _ _ (Kp.refl _) rfl
            case sb17 =>
              intro x u hg hd K hK
              have d16 : (x 16) = .pointer (some ⟨gs, j, none⟩) := And.left hd
              clear hd
              have q8 := cell_kp hg (blk_lt HR3.out.size) HQS.out
              refine ⟨?_⟩
              simp only [List.take_succ_cons, List.take_zero, putsFrom, Act.put, List.setIfInBounds_toArray, List.set_cons_zero, List.set_cons_succ, Nat.reduceAdd, d16] at hK ⊢
              go_simp
              exact hK.out _ _ (Kp.refl _) rfl
            case sb18 =>
              intro x u hg hd K hK
              have d9 : (x 9) = .int .i64 j := And.left hd
              have d17 : (x 17) = .int .i64 ((n : Int) + 1) := And.left (And.right hd)
              clear hd
              have e1 : IntKind.i64.wrap ((j : Int) + ((n : Int) + 1)) = (j : Int) + ((n : Int) + 1) := by rw [IntKind.wrap_i64]; omega
              refine ⟨?_⟩
              simp only [List.take_succ_cons, List.take_zero, putsFrom, Act.put, List.setIfInBounds_toArray, List.set_cons_zero, List.set_cons_succ, Nat.reduceAdd, d9, d17] at hK ⊢
              go_simp
              exact hK.out _ _ (Kp.refl _) rfl
            case sb19 =>
              intro x u hg hd K hK
              have d4 : (x 4) = .slice (some ⟨gc, 0, none⟩) N N := And.left hd
              have d7 : (x 7) = .int .i64 ((j : Int) + 1) := And.left (And.right hd)
              have d18 : (x 18) = .int .i64 ((j : Int) + ((n : Int) + 1)) := And.left (And.right (And.right hd))
              clear hd
              have g0 : (0 : Int) ≤ (j : Int) + 1 := by omega
              have g1 : (j : Int) + 1 ≤ (j : Int) + ((n : Int) + 1) := by omega
              have g2 : (j : Int) + ((n : Int) + 1) ≤ (N : Int) := by omega
              have g4 : ((j : Int) + 1).toNat = j + 1 := by omega
              refine ⟨?_⟩
              simp only [List.take_succ_cons, List.take_zero, putsFrom, Act.put, List.setIfInBounds_toArray, List.set_cons_zero, List.set_cons_succ, Nat.reduceAdd, d4, d7, d18] at hK ⊢
              go_simp
              exact hK.out _ _ (Kp.refl _) (by have := (HR3.out.kp hg).piece_if j (((j : Int) + ((n : Int) + 1)).toNat - (j + 1)) n (N - (j + 1)) N (by omega) (by omega) HN.out (by omega); rw [HCE.out] at this; exact this)
            intro x u hg he
            have d0 : (x 0) = .slice (some ⟨b1, o1, none⟩) rest.length c1 := And.left he
            have d1 : (x 1) = .pointer (some ⟨hp, 0, none⟩) := And.left (And.right he)
            have d2 : (x 2) = .pointer (some ⟨hp, 0, none⟩) := And.left (And.right (And.right he))
            have d3 : (x 3) = .pointer (some ⟨hp, 0, none⟩) := And.left (And.right (And.right (And.right he)))
            have d4 : (x 4) = .slice (some ⟨gc, 0, none⟩) N N := And.left (And.right (And.right (And.right (And.right he))))
            have d5 : (x 5) = .pointer (some ⟨wr.heap.size, 1, none⟩) := And.left (And.right (And.right (And.right (And.right (And.right he)))))
            have d6 : (x 6) = .int .i64 j := And.left (And.right (And.right (And.right (And.right (And.right (And.right he))))))
            have d7 : (x 7) = .int .i64 ((j : Int) + 1) := And.left (And.right (And.right (And.right (And.right (And.right (And.right (And.right he)))))))
            have d8 : (x 8) = .pointer (some ⟨wr.heap.size, 1, none⟩) := And.left (And.right (And.right (And.right (And.right (And.right (And.right (And.right (And.right he))))))))
            have d9 : (x 9) = .int .i64 j := And.left (And.right (And.right (And.right (And.right (And.right (And.right (And.right (And.right (And.right he)))))))))
            have d10 : (x 10) = .pointer (some ⟨hp, 0, none⟩) := And.left (And.right (And.right (And.right (And.right (And.right (And.right (And.right (And.right (And.right (And.right he))))))))))
            have d11 : (x 11) = .pointer (some ⟨hp, 0, none⟩) := And.left (And.right (And.right (And.right (And.right (And.right (And.right (And.right (And.right (And.right (And.right (And.right he)))))))))))
            have d12 : (x 12) = .pointer (some ⟨hp, 1, none⟩) := And.left (And.right (And.right (And.right (And.right (And.right (And.right (And.right (And.right (And.right (And.right (And.right (And.right he))))))))))))
            have d13 : (x 13) = .slice (some ⟨gs, 0, none⟩) N N := And.left (And.right (And.right (And.right (And.right (And.right (And.right (And.right (And.right (And.right (And.right (And.right (And.right (And.right he)))))))))))))
            have d14 : (x 14) = .pointer (some ⟨wr.heap.size, 1, none⟩) := And.left (And.right (And.right (And.right (And.right (And.right (And.right (And.right (And.right (And.right (And.right (And.right (And.right (And.right (And.right he))))))))))))))
            have d15 : (x 15) = .int .i64 j := And.left (And.right (And.right (And.right (And.right (And.right (And.right (And.right (And.right (And.right (And.right (And.right (And.right (And.right (And.right (And.right he)))))))))))))))
            have d16 : (x 16) = .pointer (some ⟨gs, j, none⟩) := And.left (And.right (And.right (And.right (And.right (And.right (And.right (And.right (And.right (And.right (And.right (And.right (And.right (And.right (And.right (And.right (And.right he))))))))))))))))
            have d17 : (x 17) = .int .i64 ((n : Int) + 1) := And.left (And.right (And.right (And.right (And.right (And.right (And.right (And.right (And.right (And.right (And.right (And.right (And.right (And.right (And.right (And.right (And.right (And.right he)))))))))))))))))
            have d18 : (x 18) = .int .i64 ((j : Int) + ((n : Int) + 1)) := And.left (And.right (And.right (And.right (And.right (And.right (And.right (And.right (And.right (And.right (And.right (And.right (And.right (And.right (And.right (And.right (And.right (And.right (And.right he))))))))))))))))))
            have d19 : RdCells u (x 19) C := And.left (And.right (And.right (And.right (And.right (And.right (And.right (And.right (And.right (And.right (And.right (And.right (And.right (And.right (And.right (And.right (And.right (And.right (And.right (And.right he)))))))))))))))))))
            clear he
            refine ⟨?_⟩
            simp only [List.take_succ_cons, List.take_zero, List.drop_succ_cons, List.drop_zero, putsFrom, Act.put, List.setIfInBounds_toArray, List.set_cons_zero, List.set_cons_succ, Nat.reduceAdd, d0, d1, d2, d3, d4, d5, d6, d7, d8, d9, d10, d11, d12, d13, d14, d15, d16, d17, d18]
            clear d0 d1 d2 d3 d4 d5 d6 d7 d8 d9 d10 d11 d12 d13 d14 d15 d16 d17 d18
            obtain ⟨A3, c3, e19, hc3⟩ := RdL.form d19
            have d19' : RdCells u (.slice A3 C.length c3) C := by rw [← e19]; exact d19
            rw [e19]
            obtain ⟨news, hch, _, hsrc⟩ := RdL.src d19'
            obtain ⟨xs, hown, hxc⟩ := HROW3.out.kp hg
            have hl : news.length = C.length * 2 := hch.len
            have h1 : ∀ y ∈ news, y.oneCell' = true := Chunk.one_ (ceC_one u) hch
            have hbase : w.heap.size + 1 ≤ u.heap.size := by have := hg.le; omega
            have HXC := hid hxc; have HCH := hid hch; have HSRC := hid hsrc; have HH1 := hid h1; have HL := hid hl; have HG := hid hg; have HD0 := hid hD0; have HHCL := hid hCl
            have hb1' : rest.length + C.length ≤ maxLen := by unfold maxLen; omega
            have hb2' : (rest.length + C.length) * 16 ≤ 140737488355328 := by omega
            clear hxc hch hsrc h1 hl d19 d19' hg e19 hD0
            go_wp2_with (at_builtin; go_must (refine app_src elCell rfl (.tmp 49) (.tmp 68) rfl hown rfl news A3 C.length c3 rfl HL.out HSRC.out HH1.out hb1' hb2' hbase ?_); intro v2 w2 hown2 hg2 hm2 hb2)
            have hend := HPU.out w2 v2 (by rw [HC.out]; exact OCells.app HXC.out HCH.out hown2) (by
                obtain ⟨es, clock, k1, k2⟩ := HOWN3.out
                exact ⟨es, clock, by rw [hb2.block _ (Nat.lt_succ_self _), HG.out.block _ (by omega)]; exact k1, k2⟩)
              (Below.trans HB3.out (Below.mono HG.out (by omega)) |>.trans (Below.mono hb2 (Nat.le_succ _))) (Nat.le_trans hbase hb2.size)
            rw [HC.out] at hend
            go_roundw
            case rel => exact ⟨_, _, _, hend.1⟩
            case measure => rw [dat_of hend.1.map, HD0.out]; exact hend.2
      · have bt : (m.tag != 6) = true := by simp [ht]
        have hno : ∀ k, Ref H.sizes m k → inD D k = true := fun k hr => absurd hr.1 ht
        have HNO := hid hno
        clear hno
        go_wp2
        go_roundw
        case rel => exact ⟨rest, cnt, D, HPop.out HNO.out _ ((Kp.refl _).alloc _)⟩
        case measure => 
          have hM2 := HPop.out HNO.out _ ((Kp.refl wr).alloc (.cells #[.int .i64 m.tag, .int .i64 m.n] 24))
          rw [dat_of hM2.map, hD0]
          simp [lenV]
end Go.Proofs.Ytffjfkmnlfndkaa
