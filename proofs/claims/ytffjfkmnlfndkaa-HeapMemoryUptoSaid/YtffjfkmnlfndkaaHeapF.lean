/-
  The heap laws' led: what roots lead to, counted in a map. Condition: at most four million roots.
-/
import Derived.Test.YtffjfkmnlfndkaaHeapE
namespace Go.Proofs.Ytffjfkmnlfndkaa
open Go.RowKit Go.Maps
set_option linter.unusedVariables false

/-! ### numbers of cells are numbers -/
theorem getD_all {α : Type} {P : α → Prop} {l : List α} {d : α} (h : ∀ x ∈ l, P x) (hd : P d) (i : Nat) : P (l.getD i d) := by
  unfold List.getD
  cases e : l[i]? with
  | none => exact hd
  | some x => exact h x (List.mem_of_getElem? e)
theorem made_cells (room : Int) (l : List MakeM) (h : ∀ m ∈ l, ∀ c ∈ m.cells, okI c.n) (k : Nat) : ∀ c ∈ (madeN room l k).1.cells, okI c.n := by
  have ok0 : okI 0 := by unfold okI; omega
  have hput : ∀ (N : Nat) (at_ : List Int) (p : Int) (cs : List CellM) (H : HeapM), (∀ q ∈ at_, okI q) → (∀ c ∈ cs, okI c.n) → (∀ c ∈ H.cells, okI c.n) → ∀ j, ∀ c ∈ (putM at_ p cs j H).cells, okI c.n := by
    intro N at_ p cs H ha hc hH j
    induction j with
    | zero => exact hH
    | succ j ih =>
      intro c hcc
      have hcc' : c ∈ (storeH (putM at_ p cs j H) p j (turnC at_ (cs.getD j ⟨0, 0⟩))).cells := hcc
      unfold storeH at hcc'
      split at hcc'
      · rcases List.mem_or_eq_of_mem_set hcc' with g | g
        · exact ih c g
        · subst g
          unfold turnC
          dsimp only
          split
          · exact getD_all ha ok0 _
          · exact getD_all (P := fun c : CellM => okI c.n) hc ok0 _
      · exact ih c hcc'
  have key : ∀ (l : List MakeM) (N : Nat) (S : HeapM × List Int), N ≤ 4000 → MadeOk N S → (∀ m ∈ l, ∀ c ∈ m.cells, okI c.n) → (∀ c ∈ S.1.cells, okI c.n) → ∀ c ∈ (l.foldl madeStep S).1.cells, okI c.n := by
    intro l N
    induction l with
    | nil => intro S _ _ _ h; exact h
    | cons m l ih =>
      intro S hN hok hm hS
      refine ih (madeStep S m) hN (hok.step m) (fun m' hm' => hm m' (by simp [hm'])) ?_
      unfold madeStep
      split
      · exact hS
      · rename_i ha
        refine hput N S.2 _ m.cells _ (fun q hq => okI_isB (hok.at_ q hq) (by rw [hok.room_]; exact hN)) (hm m (by simp)) ?_ _
        obtain ⟨k, e1, e2, n0, _, g, _⟩ := alloc_ok (H := S.1) hok.sound (Classical.not_not.1 ha)
        intro c hc
        rw [e2] at hc
        have hc' : c ∈ clearM S.1.cells k ((spotV m.n 12).toNat + 1) := hc
        unfold clearM at hc'
        rcases List.mem_append.1 hc' with g | g
        · exact hS c (List.mem_of_mem_take g)
        · rcases List.mem_append.1 g with g | g
          · rw [List.eq_of_mem_replicate g]; exact ok0
          · exact hS c (List.mem_of_mem_drop g)
  obtain ⟨z0, z1⟩ := spotV_bd room 400 (by omega)
  refine key (l.take k) _ _ (by omega) (made_new room z0) (fun m hm => h m (List.mem_of_mem_take hm)) (fun c hc => ?_)
  have : c = ⟨0, 0⟩ := List.eq_of_mem_replicate hc
  rw [this]; exact ok0
/-! ### what the map holds -/
noncomputable def inL (D : DataW Unit) (k : Nat) : Bool := @decide (D.atKey (.int .i64 (k : Int)) (.lit (.int .i64 0)) = .lit (.int .i64 1)) (Classical.propDecidable _)
theorem inL_iff (D : DataW Unit) (k : Nat) : inL D k = true ↔ D.atKey (.int .i64 (k : Int)) (.lit (.int .i64 0)) = .lit (.int .i64 1) := by unfold inL; exact @decide_eq_true_iff _ (Classical.propDecidable _)
noncomputable def bitI (D : DataW Unit) (k : Int) : Int := if 0 ≤ k ∧ inL D k.toNat = true then 1 else 0
abbrev OwnsL (w : World) (B cnt : Nat) (D : DataW Unit) : Prop := w.ownsMap Try.prog 3 (plainElem Try.prog 3) B cnt D
theorem dat_ofL {w : World} {b n : Nat} {D : DataW Unit} (h : OwnsL w b n D) : (Classical.epsilon fun D : DataW Unit => ∃ n, OwnsL w b n D) = D := by
  obtain ⟨n', es', clock', hb', _, _, hD'⟩ := Classical.epsilon_spec (p := fun D : DataW Unit => ∃ n, OwnsL w b n D) ⟨D, n, h⟩
  obtain ⟨es, clock, hb, _, _, hD⟩ := h
  rw [hb] at hb'
  injection hb' with hb'
  injection hb' with e1 e2
  subst e1
  rw [hD', hD]
theorem ownsL_kp {w w' : World} {b n : Nat} {D : DataW Unit} (h : OwnsL w b n D) (hk : Kp w w') : OwnsL w' b n D := by
  have hl := h.lt
  obtain ⟨es, clock, h1, h2⟩ := h
  exact ⟨es, clock, by rw [hk.block _ hl]; exact h1, h2⟩
theorem cell_grown {w w' : World} {row : Option Nat} {b o : Nat} {v : Value} (hg : w.grownBy w' row) (h : w.cell? ⟨b, o, none⟩ = some v) (hl : b < w.heap.size) (hne : some b ≠ row) : w'.cell? ⟨b, o, none⟩ = some v := by
  unfold World.cell? at h ⊢
  dsimp only at h ⊢
  rw [hg.block b hl hne]; exact h
structure LedAt (w : World) (H : HeapM) (roots : List CellM) (B base lim : Nat) (v : Value) (wr : World) (work : List CellM) (cnt : Nat) (D : DataW Unit) : Prop where
  row : OCells wr base v work
  map : OwnsL wr B cnt D
  val : ∀ k : Int, D.atKey (.int .i64 k) (.lit (.int .i64 0)) = .lit (.int .i64 (bitI D k))
  mk_ : Marked H.sizes H.cells roots work (fun k => inL D k = true)
  big : work.length + unseenGo H.sizes (inL D) H.sizes.length ≤ lim
  cnt_ : cnt + unseenGo H.sizes (inL D) H.sizes.length ≤ 16000000
  kp : Below B w wr
  ge : base ≤ wr.heap.size
  old : w.heap.size = B
  base_ : base = B + 1
  okn : ∀ c ∈ work, okI c.n
theorem LedAt.pop {w : World} {H : HeapM} {roots : List CellM} {B base lim c cnt : Nat} {A : Option Addr} {wr w2 : World} {rest : List CellM} {m : CellM} {D : DataW Unit} (h : LedAt w H roots B base lim (.slice A (rest.length + 1) c) wr (rest ++ [m]) cnt D) (hc : ∀ k, Ref H.sizes m k → inL D k = true) (hk : Kp wr w2) : LedAt w H roots B base lim (.slice A rest.length c) w2 rest cnt D := by
  have hbl : B < wr.heap.size := h.map.lt
  refine ⟨h.row.pop.kp hk, ?_, h.val, h.mk_.pop hc, ?_, h.cnt_, Below.trans h.kp (Below.mono hk (by omega)), Nat.le_trans h.ge hk.le, h.old, h.base_, fun c hc => h.okn c (by simp [hc])⟩
  · obtain ⟨es, clock, h1, h2⟩ := h.map
    exact ⟨es, clock, by rw [hk.block _ hbl]; exact h1, h2⟩
  · have := h.big; rw [List.length_append, List.length_singleton] at this; omega
theorem LedAt.drewN {w wr : World} {H : HeapM} {roots work : List CellM} {B base lim cnt : Nat} {v : Value} {D : DataW Unit} (h : LedAt w H roots B base lim v wr work cnt D) (n : Nat) : LedAt w H roots B base lim v (wr.drewN n) work cnt D :=
  ⟨h.row.kp ((Kp.refl wr).drewN n), h.map, h.val, h.mk_, h.big, h.cnt_, Below.trans h.kp ((Kp.refl wr).drewN n |> fun k => Below.mono k (by have := h.map.lt; omega)), h.ge, h.old, h.base_, h.okn⟩
theorem inL_put {D : DataW Unit} (hD : Maps.IsMap D) (j : Nat) (k : Nat) : inL (D.put (.int .i64 (j : Int)) (.lit (.int .i64 1))) k = (inL D k || k == j) := by
  have a := inL_iff (D.put (.int .i64 (j : Int)) (.lit (.int .i64 1))) k
  have b := inL_iff D k
  by_cases h : k = j
  · subst h
    rw [atKey_put_same hD (show WideAt.IsKeyLit (Lit.int .i64 (k : Int)) from trivial)] at a
    have := a.2 rfl
    rw [this]; simp
  · rw [atKey_put_other (by intro e; injection e with _ e; exact h (by omega))] at a
    have e : (k == j) = false := by simpa using h
    rw [e, Bool.or_false]
    cases e1 : inL (D.put (.int .i64 (j : Int)) (.lit (.int .i64 1))) k <;> cases e2 : inL D k <;> simp_all
theorem val_put {D : DataW Unit} (hD : Maps.IsMap D) (hv : ∀ k : Int, D.atKey (.int .i64 k) (.lit (.int .i64 0)) = .lit (.int .i64 (bitI D k))) (j : Nat) (k : Int) : (D.put (.int .i64 (j : Int)) (.lit (.int .i64 1))).atKey (.int .i64 k) (.lit (.int .i64 0)) = .lit (.int .i64 (bitI (D.put (.int .i64 (j : Int)) (.lit (.int .i64 1))) k)) := by
  by_cases h : k = j
  · subst h
    rw [atKey_put_same hD (show WideAt.IsKeyLit (Lit.int .i64 (j : Int)) from trivial)]
    unfold bitI
    rw [if_pos ⟨by omega, by rw [inL_put hD]; simp⟩]
  · rw [atKey_put_other (by intro e; injection e with _ e; exact h e), hv k]
    unfold bitI
    rw [inL_put hD]
    by_cases h0 : 0 ≤ k
    · have e : (k.toNat == j) = false := by simp; omega
      rw [e, Bool.or_false]
    · rw [if_neg (by omega), if_neg (by omega)]
theorem LedAt.push {w : World} {H : HeapM} {roots : List CellM} {B base lim c cnt j : Nat} {A : Option Addr} {wr w2 : World} {rest : List CellM} {m : CellM} {D : DataW Unit} {v2 : Value} (h : LedAt w H roots B base lim (.slice A (rest.length + 1) c) wr (rest ++ [m]) cnt D) (hr : Ref H.sizes m j) (hn : inL D j = false) (hok : ∀ c ∈ H.cells, okI c.n)
    (hrow : OCells w2 base v2 (rest ++ cellsOf H.sizes H.cells j)) (hmap : OwnsL w2 B (cnt + 1) (D.put (.int .i64 (j : Int)) (.lit (.int .i64 1)))) (hb : Below B w w2) (hge : base ≤ w2.heap.size) : LedAt w H roots B base lim v2 w2 (rest ++ cellsOf H.sizes H.cells j) (cnt + 1) (D.put (.int .i64 (j : Int)) (.lit (.int .i64 1))) ∧ lenV v2 + unseenGo H.sizes (inL (D.put (.int .i64 (j : Int)) (.lit (.int .i64 1)))) H.sizes.length < rest.length + 1 + unseenGo H.sizes (inL D) H.sizes.length := by
  have hD := h.map.isMap
  have hg := inL_put hD j
  have hu := unseen_add (S := H.sizes) hn hg H.sizes.length (sound_lt hr.2.2)
  have hc := cellsOf_le H.sizes H.cells j hr.2.2
  have h1 := h.big; have h2 := h.cnt_
  rw [List.length_append, List.length_singleton] at h1
  have hlen : lenV v2 = (rest ++ cellsOf H.sizes H.cells j).length := by
    obtain ⟨A2, c2, rfl⟩ := hrow.form; rfl
  refine ⟨⟨hrow, hmap, val_put hD h.val j, h.mk_.push hr (fun k => by rw [hg k]; simp), by rw [List.length_append]; omega, by omega, hb, hge, h.old, h.base_, fun c hc => ?_⟩, ?_⟩
  · rcases List.mem_append.1 hc with g | g
    · exact h.okn c (by simp [g])
    · exact hok c (List.mem_of_mem_drop (List.mem_of_mem_take g))
  · rw [hlen, List.length_append]; omega
theorem tile_lt {S : List Int} : ∀ (l : List BlockM) (lo : Nat), Tile S lo l → ∀ (i : Nat) (b : BlockM), l[i]? = some b → lo ≤ b.pos
  | [], _, _, i, b, h => by simp at h
  | a :: r, lo, ⟨h1, _, _, _, _, h6⟩, i, b, hb => by
    cases i with
    | zero => simp at hb; subst hb; exact h1
    | succ i => have := tile_lt r _ h6 i b (by simpa using hb); omega
theorem tile_inj {S : List Int} : ∀ (l : List BlockM) (lo : Nat), Tile S lo l → ∀ (i j : Nat) (b c : BlockM), l[i]? = some b → l[j]? = some c → b.pos = c.pos → i = j
  | [], _, _, i, _, b, _, h, _, _ => by simp at h
  | a :: r, lo, ⟨h1, _, _, _, _, h6⟩, i, j, b, c, hb, hc, he => by
    cases i with
    | zero =>
      cases j with
      | zero => rfl
      | succ j => simp at hb; subst hb; have := tile_lt r _ h6 j c (by simpa using hc); omega
    | succ i =>
      cases j with
      | zero => simp at hc; subst hc; have := tile_lt r _ h6 i b (by simpa using hb); omega
      | succ j => exact congrArg (· + 1) (tile_inj r _ h6 i j b c (by simpa using hb) (by simpa using hc) he)
set_option maxRecDepth 20000 in
theorem lookL {w : World} {B cnt : Nat} {D : DataW Unit} (h : OwnsL w B cnt D) (hv : ∀ k : Int, D.atKey (.int .i64 k) (.lit (.int .i64 0)) = .lit (.int .i64 (bitI D k))) {n : Int} (hn : okI n) : (Instr.lookup 46 (.map (some B)) (.int .i64 n) false).run Try.prog w = .ok (.int .i64 (bitI D n)) w := by
  obtain ⟨c, h1, h2, _⟩ := h.lookup_int keyInt Try.underlying46 Try.underlying3 (by kernel_rfl) (Maps.keyOf_int_mk Try.underlying3 (WalkArith.wf_i64 hn))
  rw [hv n] at h2
  injection h2 with h2
  injection h2 with _ h2
  rw [h2]; exact h1
def LedPost (H : HeapM) (roots : List CellM) (w : World) (e : Ending) (w' : World) : Prop := (∃ B cnt, ∃ D : DataW Unit, e = .returned (.map (some B)) ∧ w.heap.size ≤ B ∧ OwnsL w' B cnt D ∧ (∀ k : Int, D.atKey (.int .i64 k) (.lit (.int .i64 0)) = .lit (.int .i64 (bitI D k))) ∧ ∀ k : Nat, inL D k = true ↔ Reach H.sizes H.cells roots k) ∧ Kp w w'
set_option maxRecDepth 20000 in
set_option maxHeartbeats 4000000 in
theorem led_any (w : World) (b0 N : Nat) (H : HeapM) (at_ : List Int) (lv rv : Value) (L : List BlockM) (roots : List CellM) (hok : MadeOk N (H, at_)) (hN : N ≤ 400) (hL : blocksM H.sizes H.shapes H.cells = L) (hl : RdL (CeB b0) 3 w lv L) (hr : RdCells w rv roots) (hb : roots.length ≤ 4000000) (hc : ∀ c ∈ H.cells, okI c.n) (hrc : ∀ c ∈ roots, okI c.n) :
    Calls Try.prog 24 #[lv, rv] w (LedPost H roots w) := by
  have HOK := hid hok; have HL := hid hl; have HR := hid hr; have HLL := hid hL; have HC := hid hc; have HRC := hid hrc
  have hlz : H.sizes.length = N := hok.lsz.trans hok.room_
  have hsz : ∀ k, sz H.sizes k ≤ 400 := fun k => by
    rcases Nat.lt_or_ge k H.sizes.length with h1 | h1
    · have := (hok.sound k h1).2.1
      dsimp only at this; omega
    · rw [sz_out h1]; omega
  have hun : unseenGo H.sizes (inL (.map [])) H.sizes.length ≤ 16000000 := by
    have := unseen_le (f := inL (.map [])) (fun k => Int.le_trans (hsz k) (by omega)) H.sizes.length
    have : H.sizes.length * 4000 ≤ 4000 * 4000 := Nat.mul_le_mul_right _ (by omega)
    omega
  have HU := hid hun
  have hlen : L.length ≤ N := by
    rw [← hL]
    have := blks_len H.sizes H.shapes H.cells H.sizes.length
    rw [hlz] at this
    unfold blocksM; rw [hlz]; exact this
  have ht : Tile H.sizes 0 L := by rw [← hL]; exact tile_all hok.sound hok.lsz.symm
  have HT := hid ht
  have HSZ := hid hsz
  have hmm := @run_makeMap Try.prog
  obtain ⟨A, c, rfl, hcap⟩ := RdL.form hr
  obtain ⟨AL, cL, rfl, hcapL⟩ := RdL.form hl
  obtain ⟨news, hch, _, hsrc⟩ := RdL.src (RdL.kp CeC.kp hr ((Kp.refl w).alloc (.map #[] 0)))
  have hn1 : news.length = roots.length * 2 := hch.len
  have h1 : ∀ y ∈ news, y.oneCell' = true := Chunk.one_ (ceC_one _) hch
  have B1 := hid (show 0 + roots.length ≤ maxLen by unfold maxLen; omega)
  have B2 := hid (show (0 + roots.length) * 16 ≤ 140737488355328 by omega)
  have HN1 := hid hn1; have HSRC := hid hsrc; have HH1 := hid h1; have HCH := hid hch
  clear hok hl hr hL hc hrc hun hlz hsz ht hch hsrc hn1 h1
  go_enter Try.func24, Try.ntmps24
  go_wp2_with (at_builtin; go_must (refine app_src elCell rfl (.const (.slice none 0 0)) (.tmp 10) rfl (World.ownsRow_nil (w.alloc (.map #[] 0)) (w.heap.size + 1) 24 2) rfl news A roots.length c rfl HN1.out HSRC.out HH1.out B1.out B2.out (by simp) ?_); intro v1 w1 hown1 hg1 hm1 hb1)
  have hown1' : OCells w1 (w.heap.size + 1) v1 roots := ⟨news, by simpa using hown1, Chunk.mono (w := w.alloc (.map #[] 0)) (w' := w1) (fun _ _ h => h) HCH.out⟩
  obtain ⟨A1, c1, rfl⟩ := hown1'.form
  have hk1 : Below w.heap.size w w1 := Below.trans ((Kp.refl w).alloc _) (Below.mono hb1 (by omega))
  have HO1 := hid hown1'; have HB1 := hid hb1; have HK1 := hid hk1
  clear hown1 hg1 hm1 hb1 hown1' hk1
  go_loopw [6] (fun v wr => ∃ work cnt D, LedAt w H roots w.heap.size (w.heap.size + 1) (roots.length + 16000000) v wr work cnt D) (fun v wr => lenV v + unseenGo H.sizes (inL (Classical.epsilon fun D : DataW Unit => ∃ n, OwnsL wr w.heap.size n D)) H.sizes.length)
  case atStart =>
    have hz : ∀ k, inL (DataW.map []) k = false := fun k => by
      have h1 := inL_iff (DataW.map []) k
      cases e : inL (DataW.map []) k
      · rfl
      · have := h1.1 e; simp [DataW.atKey] at this
    refine ⟨roots, 0, .map [], HO1.out, ?_, fun k => ?_, ?_, by have := HU.out; omega, by have := HU.out; omega, HK1.out, by have := HB1.out.size; simp at this; omega, rfl, rfl, HRC.out⟩
    · obtain ⟨es, clock, h1, h2⟩ := World.ownsMap_made w Try.prog 3 (plainElem (H := Unit) Try.prog 3)
      exact ⟨es, clock, by rw [HB1.out.block _ (by omega)]; exact h1, h2⟩
    · unfold bitI; rw [hz, if_neg (by simp)]; rfl
    · have e : (fun k => inL (DataW.map []) k = true) = fun _ => False := by funext k; rw [hz k]; simp
      rw [e]; exact Marked.start _ _ _
  case round =>
    obtain ⟨work, cnt, D, hM⟩ := hrel
    have HM := hid hM
    obtain ⟨A3, c3, rfl⟩ := hM.row.form
    clear hM
    rcases Nat.eq_zero_or_pos work.length with h0 | h0
    · have i1 : ¬ ((0 : Int) < (work.length : Int)) := by omega
      obtain rfl := List.eq_nil_of_length_eq_zero h0
      go_wp2
      go_ret
      exact ⟨⟨_, cnt, D, rfl, Nat.le_refl _, HM.out.map, HM.out.val, fun k => HM.out.mk_.done k⟩, HM.out.kp⟩
    · obtain ⟨rest, m, rfl⟩ := last_of work h0
      have hlen2 : (rest ++ [m]).length = rest.length + 1 := by simp
      rw [hlen2] at HM ⊢
      obtain ⟨b1, o1, rfl, hb1, q0, q1⟩ := rd_cell HM.out.row.rd (i := rest.length) (m := m) (by simp)
      have hcap3 : rest.length + 1 ≤ c3 := by
        obtain ⟨xs, ⟨_, h2⟩, _⟩ := HM.out.row
        rcases h2 with ⟨h2, _⟩ | ⟨g, cap, cur, hv, _, _, hnc, _⟩
        · cases h2
        · injection hv with e1 e2 e3; subst e3; rw [← hlen2]; exact hnc
      have i0 : (0 : Int) < ((rest.length + 1 : Nat) : Int) := by omega
      have q1' := q1
      rw [show o1 + rest.length * 2 + 1 = o1 + (rest.length * 2 + 1) by omega] at q1'
      have HMs := HM.out
      have hbs : w.heap.size < wr.heap.size := by have := HMs.ge; omega
      have hr20 : rest.length ≤ 20000000 := by have := HMs.big; rw [hlen2] at this; omega
      have hmn : okI m.n := HMs.okn m (by simp)
      have HMN := hid hmn
      have hrun := lookL (HMs.map.alloc (.cells #[.int .i64 m.tag, .int .i64 m.n] 24)) HMs.val hmn
      clear HMs hlen2 h0 hmn
      have HPop : Hid ((∀ k, Ref H.sizes m k → inL D k = true) → ∀ w2 : World, Kp wr w2 → LedAt w H roots w.heap.size (w.heap.size + 1) (roots.length + 16000000) (.slice (some ⟨b1, o1, none⟩) rest.length c3) w2 rest cnt D) := hid fun h w2 hk => HM.out.pop h hk
      have HPR := hid (HM.out.row.pop)
      have hD0 := hid (dat_ofL HM.out.map)
      by_cases ht : m.tag = 6
      · have bt : (m.tag != 6) = false := by simp [ht]
        rw [ht] at hrun
        have HTg := hid ht
        by_cases hin : bitI D m.n = 1
        · rw [hin] at hrun
          have hno : ∀ k, Ref H.sizes m k → inL D k = true := fun k hr => by
            unfold bitI at hin
            split at hin
            · rename_i h; have e : m.n.toNat = k := by have := hr.2.1; omega
              rw [e] at h; exact h.2
            · omega
          have HNO := hid hno
          clear hno hin
          go_wp2
          go_roundw
          case rel => exact ⟨rest, cnt, D, HPop.out HNO.out _ ((Kp.refl _).alloc _)⟩
          case measure =>
            have hM2 := HPop.out HNO.out _ ((Kp.refl wr).alloc (.cells #[.int .i64 6, .int .i64 m.n] 24))
            rw [dat_ofL hM2.map, hD0.out]
            simp [lenV]
        · have hin0 : bitI D m.n = 0 := by unfold bitI at hin ⊢; split at hin <;> simp_all
          rw [hin0] at hrun
          go_wp2
          have hno1 : ∀ k : Nat, m.n = k → inL D k = false := fun k hk => by
            unfold bitI at hin0
            split at hin0
            · omega
            · rename_i h
              cases e : inL D k
              · rfl
              · exact absurd ⟨by omega, by rw [hk, Int.toNat_natCast]; exact e⟩ h
          have HNI := hid hno1
          obtain ⟨T, hTl, hT⟩ : ∃ T, T ≤ L.length ∧ ∀ (i : Nat) (b : BlockM), L[i]? = some b → ((b.pos : Int) = m.n ↔ i = T) := by
            by_cases hex : ∃ (i : Nat) (b : BlockM), L[i]? = some b ∧ (b.pos : Int) = m.n
            · obtain ⟨i, b, hi, hp'⟩ := hex
              refine ⟨i, Nat.le_of_lt (List.getElem?_eq_some_iff.1 hi).1, fun i' b' hi' => ⟨fun h => tile_inj L 0 HT.out i' i b' b hi' hi (by omega), fun h => ?_⟩⟩
              subst h; rw [hi] at hi'; cases hi'; exact hp'
            · refine ⟨L.length, Nat.le_refl _, fun i b hi => ⟨fun h => absurd ⟨i, b, hi, h⟩ hex, fun h => ?_⟩⟩
              have := (List.getElem?_eq_some_iff.1 hi).1; omega
          have HTT := hid hT
          have HTR : Hid (T = L.length → ∀ k, Ref H.sizes m k → inL D k = true) := hid fun e k hr => by
            exfalso
            have hin2 := blk_in (S := H.sizes) (T := H.shapes) (C := H.cells) hr.2.2
            rw [HLL.out] at hin2
            obtain ⟨i, hi⟩ := List.getElem?_of_mem hin2
            have := (hT i _ hi).1 hr.2.1.symm
            have := (List.getElem?_eq_some_iff.1 hi).1
            omega
          have HTJ : Hid (∀ b, L[T]? = some b → Ref H.sizes m b.pos ∧ b.cells = cellsOf H.sizes H.cells b.pos) := hid fun b hb => by
            have hm := List.mem_of_getElem? hb
            rw [← HLL.out] at hm
            obtain ⟨g1, g2⟩ := blk_mem hm
            refine ⟨⟨HTg.out, ((hT T b hb).2 rfl).symm, g1⟩, ?_⟩
            rw [g2]; rfl
          obtain ⟨bx, hbx⟩ : ∃ bx, wr.heap.size = bx := ⟨_, rfl⟩
          obtain ⟨wb, hwb⟩ : ∃ wb, wr.alloc (.cells #[.int .i64 6, .int .i64 m.n] 24) = wb := ⟨_, rfl⟩
          have hkb : Kp wr wb := by rw [← hwb]; exact (Kp.refl _).alloc _
          have hxb : wb.cell? ⟨bx, 1, none⟩ = some (.int .i64 m.n) := by rw [← hwb, ← hbx]; exact blk_cell (blk_new wr _) rfl
          have hxl : bx < wb.heap.size := by rw [← hwb, ← hbx]; simp
          have hbase : w.heap.size + 1 ≤ bx := by rw [← hbx]; exact HM.out.ge
          have HPRB := hid (HPR.out.kp hkb)
          have HPRL : Hid (∀ g, (Value.slice (some ⟨b1, o1, none⟩) rest.length c3).ownBlock = some g → g < bx) := hid fun g hg => by
            obtain ⟨xs, h1, _⟩ := HPR.out
            rw [← hbx]; exact (h1.lt g hg).2
          have HMAPB : Hid (OwnsL wb w.heap.size cnt D) := hid (by rw [← hwb]; exact HM.out.map.alloc _)
          have HVAL := hid HM.out.val
          have HKWB : Hid (Below w.heap.size w wb) := hid (Below.trans HM.out.kp (Below.mono hkb (by omega)))
          have HPopB : Hid ((∀ k, Ref H.sizes m k → inL D k = true) → ∀ w2 : World, Kp wb w2 → LedAt w H roots w.heap.size (w.heap.size + 1) (roots.length + 16000000) (.slice (some ⟨b1, o1, none⟩) rest.length c3) w2 rest cnt D) := hid fun h w2 hk => HM.out.pop h (hkb.trans hk)
          have HPushB : Hid (∀ (j : Nat) (w2 : World) (v2 : Value), Ref H.sizes m j → OCells w2 (w.heap.size + 1) v2 (rest ++ cellsOf H.sizes H.cells j) → OwnsL w2 w.heap.size (cnt + 1) (D.put (.int .i64 (j : Int)) (.lit (.int .i64 1))) → Below w.heap.size w w2 → w.heap.size + 1 ≤ w2.heap.size → LedAt w H roots w.heap.size (w.heap.size + 1) (roots.length + 16000000) v2 w2 (rest ++ cellsOf H.sizes H.cells j) (cnt + 1) (D.put (.int .i64 (j : Int)) (.lit (.int .i64 1))) ∧ lenV v2 + unseenGo H.sizes (inL (D.put (.int .i64 (j : Int)) (.lit (.int .i64 1)))) H.sizes.length < rest.length + 1 + unseenGo H.sizes (inL D) H.sizes.length) := hid fun j w2 v2 hr a b c d => HM.out.push hr (HNI.out j hr.2.1) HC.out a b c d
          have hcn : cnt < maxLen := by have := HM.out.cnt_; unfold maxLen; omega
          have HB0 := hid hin0
          clear hT hno1 hin hin0 hrun q0 q1 q1' hb1
          rw [hwb, hbx]
          clear hwb hkb
          go_loopw [6, 8] (fun v i wi => ∃ k : Nat, k ≤ L.length ∧ i = .int .i64 k ∧ wi.cell? ⟨bx, 1, none⟩ = some (.int .i64 m.n) ∧ bx < wi.heap.size ∧ Below w.heap.size w wi ∧ ((k ≤ T ∧ v = .slice (some ⟨b1, o1, none⟩) rest.length c3 ∧ Kp wb wi) ∨ (T < k ∧ ∃ work2 D2, LedAt w H roots w.heap.size (w.heap.size + 1) (roots.length + 16000000) v wi work2 (cnt + 1) D2 ∧ lenV v + unseenGo H.sizes (inL D2) H.sizes.length < rest.length + 1 + unseenGo H.sizes (inL D) H.sizes.length))) (fun _ i _ => L.length - lenI i)
          case atStart => exact ⟨0, by omega, rfl, hxb, hxl, HKWB.out, .inl ⟨by omega, rfl, Kp.refl _⟩⟩
          case round =>
            obtain ⟨k, hk, rfl, hx1, hx2, hkw, hcase⟩ := hrel
            have HKW := hid hkw
            have HXL := hid hx2
            by_cases hlt : k < L.length
            · have i1 : (k : Int) < (L.length : Int) := by omega
              have j0 : (0 : Int) ≤ (k : Int) := by omega
              obtain ⟨b, hbk⟩ : ∃ b, L[k]? = some b := ⟨_, List.getElem?_eq_getElem hlt⟩
              obtain ⟨g, off, la, rfl, hg, c0, c1, c2, ho⟩ := rd_blk (HL.out.kp CeB.kp hkw) hbk
              obtain ⟨A4, c4, rfl⟩ := ho.form
              have hiff := HTT.out k b hbk
              have HO := hid ho; have HBK := hid hbk
              clear ho hbk hkw
              by_cases hkT : k = T
              · have bp : ((b.pos : Int) == m.n) = true := by rw [hiff.2 hkT]; simp
                clear hiff
                rcases hcase with ⟨_, rfl, hkb⟩ | ⟨h, _⟩
                · have HKB := hid hkb
                  obtain ⟨href, hbc⟩ := HTJ.out b (by rw [← hkT]; exact HBK.out)
                  have HREF := hid href; have HBC := hid hbc
                  have hbl : b.cells.length ≤ 400 := by
                    have h1 := cellsOf_le H.sizes H.cells b.pos href.2.2
                    have h2 := HSZ.out b.pos
                    rw [hbc]; omega
                  have hkey : keyOf Try.prog 3 (.int .i64 m.n) = some (.int .i64 ((b.pos : Nat) : Int)) := by
                    rw [href.2.1]; exact Maps.keyOf_int_mk Try.underlying3 (WalkArith.wf_i64 (by have := HMN.out; rw [href.2.1] at this; exact this))
                  have HKT := hid hkT
                  clear hkb href hbc hkT
                  go_wp2
                  go_quiet (fail)
                  obtain ⟨wd, hwd⟩ : ∃ wd, wr.drewN nq = wd := ⟨_, rfl⟩
                  have hkd : Kp wr wd := by rw [← hwd]; exact (Kp.refl _).drewN nq
                  have hmd : OwnsL wd w.heap.size cnt D := ownsL_kp (ownsL_kp HMAPB.out HKB.out) hkd
                  have hrun := lookL hmd HVAL.out HMN.out
                  rw [HB0.out] at hrun
                  have hxd := cell_kp hkd HXL.out hx1
                  have hwwd : Below w.heap.size w wd := Below.trans HKW.out (Below.mono hkd HKW.out.size)
                  have hrowd := (HPRB.out.kp HKB.out).kp hkd
                  have hsd : wr.heap.size ≤ wd.heap.size := hkd.size
                  have HMD := hid hmd; have HWWD := hid hwwd; have HROWD := hid hrowd; have HXD := hid hxd
                  rw [hwd]
                  clear hwd hkd hmd hwwd hrowd c0 c1 c2 hx1
                  have hwle : w.heap.size ≤ wd.heap.size := HWWD.out.size
                  have hlv : plainElem (H := Unit) Try.prog 3 (.int .i64 1) = some (.lit (.int .i64 1), []) := plainElem_int Try.underlying3 (by decide)
                  have hr1 : rest.length + b.cells.length ≤ maxLen := by unfold maxLen; omega
                  have hr2 : (rest.length + b.cells.length) * 16 ≤ 140737488355328 := by omega
                  have HR1 := hid hr1; have HR2 := hid hr2; have HRKEY := hid hkey; have HLV := hid hlv
                  clear hr1 hr2 hkey hlv
                  go_wp2_with first | (at_mapUpdate; go_must (refine wpList_mapUpdate_in _ rfl _ _ _ 46 rfl 3 3 keyInt Try.underlying46 (plainElem Try.prog 3) w.heap.size cnt D rfl HMD.out hcn _ _ _ rfl rfl HRKEY.out (.lit (.int .i64 1)) [] HLV.out ?_); intro w3 hown3 hturn3; have hg3 := hturn3.grown; have hww3 : Below w.heap.size w w3 := Below.one HWWD.out hg3 (Nat.le_refl _) hwle; obtain ⟨g', off', la', e9, hg', c0', c1', c2', ho'⟩ := rd_blk (HL.out.kp CeB.kp hww3) HBK.out; cases e9; obtain ⟨A5, c5, rfl⟩ := ho'.form; obtain ⟨news2, hch2, _, hsrc2⟩ := RdL.src ho'.rd; have HCH2 := hid hch2; have HSRC2 := hid hsrc2; obtain ⟨xs2, hx12, hx22⟩ := HROWD.out.grown hg3 (fun g e => by injection e with e; omega); have HX12 := hid hx12; have HX22 := hid hx22; have HOWN3 := hid hown3; have HWW3 := hid hww3; have hb3l : w.heap.size + 1 ≤ w3.heap.size := Nat.le_trans hbase (Nat.le_trans (Nat.le_of_lt HXL.out) (Nat.le_trans hsd hg3.size)); have HBX3 := hid ((cell_grown hg3 HXD.out (Nat.lt_of_lt_of_le HXL.out hsd) (by intro e; injection e with e; omega))); clear hch2 hsrc2 hx12 hx22 hown3 hturn3 hg3 hww3 ho') | (at_builtin; go_must (refine app_src elCell rfl (.tmp 55) (.tmp 60) rfl HX12.out rfl news2 A5 b.cells.length c5 rfl HCH2.out.len HSRC2.out (Chunk.one_ (ceC_one _) HCH2.out) HR1.out HR2.out hb3l ?_); intro v5 w5 hown5 hg5 hm5 hb5)
                  have hrow5 : OCells w5 (w.heap.size + 1) v5 (rest ++ cellsOf H.sizes H.cells b.pos) := by
                    rw [← HBC.out]; exact OCells.app HX22.out HCH2.out hown5
                  have hmap5 : OwnsL w5 w.heap.size (cnt + 1) (D.put (.int .i64 ((b.pos : Nat) : Int)) (.lit (.int .i64 1))) := by
                    obtain ⟨es, clock, k1, k2⟩ := HOWN3.out
                    exact ⟨es, clock, by rw [hb5.block _ (Nat.lt_succ_self _)]; exact k1, k2⟩
                  have hww5 : Below w.heap.size w w5 := Below.trans HWW3.out (Below.mono hb5 (Nat.le_succ _))
                  have hpush := HPushB.out b.pos w5 v5 HREF.out hrow5 hmap5 hww5 (Nat.le_trans hb3l hb5.size)
                  have hbx3l : bx < w3.heap.size := by
                    have h := HBX3.out
                    rcases Nat.lt_or_ge bx w3.heap.size with h1 | h1
                    · exact h1
                    · exfalso; unfold World.cell? at h; dsimp only at h; rw [Array.getElem?_eq_none h1] at h; cases h
                  have hbx5 := cell_grown hg5 HBX3.out hbx3l (fun e => by have := HPRL.out bx e.symm; omega)
                  have hsz5 := hb5.size
                  go_roundw
                  case rel => exact ⟨k + 1, by omega, rfl, hbx5, by omega, hww5, .inr ⟨by have := HKT.out; omega, _, _, hpush⟩⟩
                  case measure => simp only [lenI]; omega
                · omega
              · have bp : ((b.pos : Int) == m.n) = false := beq_false_of_ne (fun h => hkT (hiff.1 h))
                have HCA := hid hcase
                clear hcase hiff
                go_wp2
                go_quiet (fail)
                go_wp2
                go_roundw
                case rel =>
                  refine ⟨k + 1, by omega, rfl, hx1, hx2, Below.trans HKW.out (Below.mono ((Kp.refl _).drewN nq) HKW.out.size), ?_⟩
                  rcases HCA.out with ⟨h1, h2, h3⟩ | ⟨h1, work2, D2, h2, h3⟩
                  · exact .inl ⟨by omega, h2, h3.drewN nq⟩
                  · exact .inr ⟨by omega, work2, D2, h2.drewN nq, h3⟩
                case measure => simp only [lenI]; omega
            · obtain rfl : k = L.length := by omega
              have i1 : ¬ (L.length : Int) < (L.length : Int) := by omega
              rcases hcase with ⟨h1, rfl, h3⟩ | ⟨h1, work2, D2, h2, h3⟩
              · have hno := HTR.out (by omega)
                have hM2 := HPopB.out hno _ h3
                have HM2 := hid hM2
                clear hno hM2 h3
                go_wp2
                go_roundw
                case rel => exact ⟨rest, cnt, D, HM2.out⟩
                case measure => rw [dat_ofL HM2.out.map, hD0.out]; simp [lenV]
              · obtain ⟨A6, c6, rfl⟩ := h2.row.form
                have HM2 := hid h2; have HME := hid h3
                clear h2 h3
                go_wp2
                go_roundw
                case rel => exact ⟨work2, cnt + 1, D2, HM2.out⟩
                case measure => rw [dat_ofL HM2.out.map, hD0.out]; exact HME.out
      · have bt : (m.tag != 6) = true := by simp [ht]
        have hno : ∀ k, Ref H.sizes m k → inL D k = true := fun k hr => absurd hr.1 ht
        have HNO := hid hno
        clear hno hrun
        go_wp2
        go_roundw
        case rel => exact ⟨rest, cnt, D, HPop.out HNO.out _ ((Kp.refl _).alloc _)⟩
        case measure =>
          have hM2 := HPop.out HNO.out _ ((Kp.refl wr).alloc (.cells #[.int .i64 m.tag, .int .i64 m.n] 24))
          rw [dat_ofL hM2.map, hD0.out]
          simp [lenV]
end Go.Proofs.Ytffjfkmnlfndkaa
