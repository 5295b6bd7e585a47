/-
  defers.Order of calls that bits keep. Condition: places that rise, from 0 to 7.
-/
import Derived.Test.YtmcidhjcimjeiaaOrder
import Derived.Test.YtmcidhjcimjeiaaBits
import Derived.Test.YtmcidhjcimjeiaaBlk
import Derived.Test.YtmcidhjcimjeiaaRegionL
namespace Go.Proofs.Ytmcidhjcimjeiaa
open Go.RowKit
set_option linter.unusedVariables false

/-- Places that rise, from 0 to 7. -/
def Sites (l : List CallM) : Prop := (∀ m ∈ l, 0 ≤ m.site ∧ m.site < 8) ∧ l.Pairwise fun a b => a.site < b.site
def maskOf (l : List CallM) : Nat := l.foldl (fun M m => M ||| 2 ^ m.site.toNat) 0
theorem maskOf_snoc (l : List CallM) (m : CallM) : maskOf (l ++ [m]) = maskOf l ||| 2 ^ m.site.toNat := by unfold maskOf; rw [List.foldl_append]; rfl
theorem foldMask_lt (s : Nat) : ∀ (l : List CallM) (M : Nat), M < 2 ^ s → (∀ m ∈ l, m.site.toNat < s) → l.foldl (fun M m => M ||| 2 ^ m.site.toNat) M < 2 ^ s
  | [], M, h, _ => h
  | m :: r, M, h, hs => by
    refine foldMask_lt s r _ (Nat.or_lt_two_pow h ?_) (fun x hx => hs x (List.mem_cons_of_mem _ hx))
    exact Nat.pow_lt_pow_right (by omega) (hs m (List.mem_cons_self ..))
theorem mask_facts : ∀ s, s < 8 → ∀ M, M < 256 → M < 2 ^ s → (M ||| 2 ^ s) < 256 ∧ 0 < (M ||| 2 ^ s) ∧ Lib.bitLen (M ||| 2 ^ s) = s + 1 ∧ (M ||| 2 ^ s) / 2 ^ s % 2 = 1 ∧ ((M ||| 2 ^ s) &&& (255 - 2 ^ s)) = M := by decide +kernel
theorem Sites.at_ {l : List CallM} (h : Sites l) {k : Nat} {m : CallM} (hm : l[k]? = some m) : 0 ≤ m.site ∧ m.site < 8 ∧ (∀ a ∈ l.take k, a.site < m.site) ∧ maskOf (l.take k) < 2 ^ m.site.toNat ∧ maskOf (l.take k) < 256 := by
  have h1 := h.1 m (List.mem_of_getElem? hm)
  have h2 : ∀ a ∈ l.take k, a.site < m.site := by
    intro a ha
    have hp : (l.take (k + 1)).Pairwise fun a b => a.site < b.site := h.2.sublist (List.take_sublist _ _)
    rw [← take_snoc hm, List.pairwise_append] at hp
    exact hp.2.2 a ha m (List.mem_singleton.2 rfl)
  have h3 : maskOf (l.take k) < 2 ^ m.site.toNat := foldMask_lt _ _ _ (Nat.two_pow_pos _) (fun a ha => by
    have := h2 a ha; have := h.1 a (List.mem_of_mem_take ha); omega)
  refine ⟨h1.1, h1.2, h2, h3, Nat.lt_of_lt_of_le h3 ?_⟩
  have : 2 ^ m.site.toNat ≤ 2 ^ 8 := Nat.pow_le_pow_right (by omega) (by omega)
  simpa using this
/-- The array of the calls that are kept. -/
def KeptAt (w : World) (base b : Nat) (S : List CallM) : Prop := ∃ cur : Array Value, w.heap[b]? = some (.cells cur 69 (0, 0)) ∧ cur.size = 24 ∧ ∀ m ∈ S, ∃ la, cur[m.site.toNat * 3]? = some (.int .i64 m.site) ∧ cur[m.site.toNat * 3 + 1]? = some (.int .i64 m.fn) ∧ cur[m.site.toNat * 3 + 2]? = some la ∧ OwnI w base la m.args ∧ okCall m
theorem KeptAt.kp {w w' : World} {base b : Nat} {S : List CallM} (h : KeptAt w base b S) (hk : Kp w w') : KeptAt w' base b S := by
  obtain ⟨cur, h1, h2, h3⟩ := h
  refine ⟨cur, (hk.block b (blk_lt h1)).trans h1, h2, fun m hm => ?_⟩
  obtain ⟨la, g1, g2, g3, g4, g5⟩ := h3 m hm
  exact ⟨la, g1, g2, g3, g4.kp hk, g5⟩
theorem KeptAt.touch {w w' : World} {base b : Nat} {S : List CallM} (h : KeptAt w base b S) (ht : Touch 25 w w') : KeptAt w' base b S := by
  obtain ⟨cur, h1, h2, h3⟩ := h
  refine ⟨cur, ht.2 b _ h1 (fun cs fr e => by injection e with _ e _; exact absurd e (by decide)), h2, fun m hm => ?_⟩
  obtain ⟨la, g1, g2, g3, g4, g5⟩ := h3 m hm
  exact ⟨la, g1, g2, g3, ownsRow_touch (by decide) g4 ht, g5⟩
theorem KeptAt.sub {w : World} {base b : Nat} {S S' : List CallM} (h : KeptAt w base b S) (hs : ∀ m ∈ S', m ∈ S) : KeptAt w base b S' := by
  obtain ⟨cur, h1, h2, h3⟩ := h
  exact ⟨cur, h1, h2, fun m hm => h3 m (hs m hm)⟩
theorem KeptAt.box {w : World} {base b : Nat} {S : List CallM} (h : KeptAt w base b S) (j : Nat) (hj : j < 24) : BoxAt w b j := by
  obtain ⟨cur, h1, h2, _⟩ := h
  exact BoxAt.mk_ (blk_cell h1 (Array.getElem?_eq_getElem (by omega))) (blk_free h1)
theorem KeptAt.get {w : World} {base b : Nat} {S : List CallM} (h : KeptAt w base b S) {m : CallM} (hm : m ∈ S) : ∃ la, w.cell? ⟨b, m.site.toNat * 3, none⟩ = some (.int .i64 m.site) ∧ w.cell? ⟨b, m.site.toNat * 3 + 1, none⟩ = some (.int .i64 m.fn) ∧ w.cell? ⟨b, m.site.toNat * 3 + 2, none⟩ = some la ∧ OwnI w base la m.args ∧ okCall m := by
  obtain ⟨cur, h1, h2, h3⟩ := h
  obtain ⟨la, g1, g2, g3, g4, g5⟩ := h3 m hm
  exact ⟨la, blk_cell h1 g1, blk_cell h1 g2, blk_cell h1 g3, g4, g5⟩
theorem set3_at (cur : Array Value) (i : Nat) (hi : i + 2 < cur.size) (v0 v1 v2 : Value) : (((cur.setIfInBounds i v0).setIfInBounds (i + 1) v1).setIfInBounds (i + 2) v2)[i]? = some v0 ∧ (((cur.setIfInBounds i v0).setIfInBounds (i + 1) v1).setIfInBounds (i + 2) v2)[i + 1]? = some v1 ∧ (((cur.setIfInBounds i v0).setIfInBounds (i + 1) v1).setIfInBounds (i + 2) v2)[i + 2]? = some v2 ∧ ∀ j, j ≠ i → j ≠ i + 1 → j ≠ i + 2 → (((cur.setIfInBounds i v0).setIfInBounds (i + 1) v1).setIfInBounds (i + 2) v2)[j]? = cur[j]? := by
  refine ⟨?_, ?_, ?_, fun j h0 h1 h2 => ?_⟩
  · rw [Array.getElem?_setIfInBounds_ne (by omega), Array.getElem?_setIfInBounds_ne (by omega), Array.getElem?_setIfInBounds_self_of_lt (by omega)]
  · rw [Array.getElem?_setIfInBounds_ne (by omega), Array.getElem?_setIfInBounds_self_of_lt (by simp; omega)]
  · rw [Array.getElem?_setIfInBounds_self_of_lt (by simp; omega)]
  · rw [Array.getElem?_setIfInBounds_ne (by omega), Array.getElem?_setIfInBounds_ne (by omega), Array.getElem?_setIfInBounds_ne (by omega)]
theorem KeptAt.put {w : World} {base b : Nat} {S : List CallM} {m : CallM} {la : Value} (h : KeptAt w base b S) (hS : ∀ a ∈ S, 0 ≤ a.site ∧ a.site < m.site) (h0 : 0 ≤ m.site) (h8 : m.site < 8) (ho : OwnI w base la m.args) (hok : okCall m) (hb : b < base) :
    KeptAt (((w.setCell ⟨b, m.site.toNat * 3, none⟩ (.int .i64 m.site)).setCell ⟨b, m.site.toNat * 3 + 1, none⟩ (.int .i64 m.fn)).setCell ⟨b, m.site.toNat * 3 + 2, none⟩ la) base b (S ++ [m]) := by
  obtain ⟨cur, h1, h2, h3⟩ := h
  obtain ⟨k1, k2, k3, k4⟩ := set3_at cur (m.site.toNat * 3) (by omega) (.int .i64 m.site) (.int .i64 m.fn) la
  refine ⟨_, blk_set (blk_set (blk_set h1 _) _) _, by simpa using h2, fun a ha => ?_⟩
  rcases List.mem_append.1 ha with ha | ha
  · obtain ⟨l2, g1, g2, g3, g4, g5⟩ := h3 a ha
    have := hS a ha
    exact ⟨l2, (k4 _ (by omega) (by omega) (by omega)).trans g1, (k4 _ (by omega) (by omega) (by omega)).trans g2, (k4 _ (by omega) (by omega) (by omega)).trans g3, ((g4.setCell hb _).setCell hb _).setCell hb _, g5⟩
  · rw [List.mem_singleton] at ha
    subst ha
    exact ⟨la, k1, k2, k3, ((ho.setCell hb _).setCell hb _).setCell hb _, hok⟩
theorem OCall.base {w : World} {b B : Nat} {v : Value} {m : CallM} (h : OCall w B v m) (hb : b ≤ B) : OCall w b v m := by
  obtain ⟨la, h1, h2, h3⟩ := h
  exact ⟨la, h1, own_base hb h2, h3⟩
theorem OCall.kp {w w' : World} {b : Nat} {v : Value} {m : CallM} (h : OCall w b v m) (hk : Kp w w') : OCall w' b v m := by
  obtain ⟨la, h1, h2, h3⟩ := h
  exact ⟨la, h1, h2.kp hk, h3⟩
theorem nat_of {x : Int} (h : 0 ≤ x) : ∃ s : Nat, x = s := ⟨x.toNat, by omega⟩
theorem prev_of {l : List CallM} (h : Sites l) {k : Nat} {m m' : CallM} (hm : l[k]? = some m) (hm' : l[k - 1]? = some m') (hk : 0 < k) : m'.site < m.site := by
  obtain ⟨_, _, h2, _⟩ := h.at_ hm
  refine h2 m' ?_
  have : (l.take k)[k - 1]? = some m' := by rw [List.getElem?_take, if_pos (by omega)]; exact hm'
  exact List.mem_of_getElem? this
set_option maxRecDepth 20000 in
set_option maxHeartbeats 2000000 in
theorem order_bits (v : Value) (l : List CallM) (w : World) (h : RdCalls w v l) (hs : Sites l) (hl : (l.length + 1) * 40 ≤ 140737488355328) : Calls Try.prog 24 #[.bool true, v] w fun e w' => (∃ v', e = .returned (.tuple #[v', .int .i64 0]) ∧ OCalls w' w.heap.size v' l.reverse) ∧ Kp w w' := by
  have HL := hid h
  have HS := hid hs
  obtain ⟨A, c, rfl, hc⟩ := h.form
  clear h hs
  go_enter Try.func24, Try.ntmps24
  go_wp2
  go_loopw [11, 36] (fun mv i wr => ∃ k : Nat, k ≤ l.length ∧ i = .int .i64 k ∧ mv = .int .i64 (maskOf (l.take k) : Nat) ∧ KeptAt wr (w.heap.size + 1) w.heap.size (l.take k) ∧ Kp w wr) (fun _ i _ => l.length - (intOf i).toNat)
  case atStart => exact ⟨0, by omega, rfl, rfl, ⟨_, blk_new _ _, by decide, fun m hm => by simp at hm⟩, (Kp.refl _).alloc _⟩
  case round =>
    obtain ⟨k, hk, rfl, rfl, hka, hkp⟩ := hrel
    have HC := HL.out.kp hkp
    by_cases hlt : k < l.length
    · obtain ⟨m, hm⟩ : ∃ m, l[k]? = some m := ⟨l[k], List.getElem?_eq_getElem hlt⟩
      have HM := hid hm
      obtain ⟨s0, s8, sp, sM, sM8⟩ := HS.out.at_ hm
      have hz0 : w.heap.size < wr.heap.size := by obtain ⟨_, hz, _⟩ := hka; exact blk_lt hz
      have SP := hid sp; have SM := hid sM; have HKA := hid hka; have HKP := hid hkp
      obtain ⟨b, off, rfl, hb, la, q0, q1, q2, o0, o1, o2, o3⟩ := at_call HC hm
      have HOK := hid (show okCall m from ⟨o0, o1, o2.2.1, o3⟩)
      have HR : Hid (RdCall wr (.agg #[.int .i64 m.site, .int .i64 m.fn, la]) m) := hid ⟨la, rfl, o0, o1, o2, o3⟩
      obtain ⟨A2, c2, rfl⟩ := o2.form
      obtain ⟨site, fn, args⟩ := m
      obtain ⟨s, rfl⟩ := nat_of s0
      dsimp only at q0 q1 q2 s0 s8 sM sM8 HR SP SM o0 o1 o2 o3 ⊢
      have i1 : (k : Int) < (l.length : Int) := by omega
      have hs8 : s < 8 := by omega
      clear hm sp sM hka hkp o2 o0 o1 o3
      have t1 : decide (8 ≤ (s : Int)) = false := by simp; omega
      have t2 : decide ((s : Int) < 0) = false := by simp
      have hp : ∃ s' : Int, decide (0 < k) = false ∨ (decide (0 < k) = true ∧ wr.cell? ⟨b, off + (k - 1) * 3, none⟩ = some (.int .i64 s') ∧ decide ((s : Int) ≤ s') = false) := by
        by_cases h0 : k = 0
        · exact ⟨0, .inl (by simp [h0])⟩
        · obtain ⟨m', hm'⟩ : ∃ m', l[k - 1]? = some m' := ⟨l[k - 1], List.getElem?_eq_getElem (by omega)⟩
          have hlt' : m'.site < (s : Int) := prev_of HS.out HM.out hm' (by omega)
          obtain ⟨b', off', e', hb', la', q0', _⟩ := at_call HC hm'
          cases e'
          exact ⟨m'.site, .inr ⟨by simp; omega, q0', by simp; omega⟩⟩
      obtain ⟨s', hp⟩ := hp
      have hmk : bits .or .i64 (maskOf (l.take k) : Nat) (wrap64 (2 ^ s)) = ((maskOf (l.take (k + 1)) : Nat) : Int) := by
        rw [← take_snoc HM.out, maskOf_snoc]; exact bit_or _ sM8 s hs8
      have hend : ∀ (nq : Nat), True := fun _ => trivial
      clear hend
      have w1 : 0 < k → IntKind.i64.wrap ((k : Int) - 1) = (k : Int) - 1 := fun h => IntWalk.i64_in _ (by omega)
      have w2 : ((k : Int) - 1).toNat = k - 1 := by omega
      have w3 : 0 < k → (0 : Int) ≤ (k : Int) - 1 := fun h => by omega
      have w4 : (k : Int) - 1 < (l.length : Int) := by omega
      rcases hp with p0 | ⟨p0, p1, p2⟩
      · clear w1 w2 w3 w4
        go_wp2
        go_quiet (fail)
        go_wp2
        have HB : Hid (((wr.alloc (.cells #[.int .i64 (s : Int), .int .i64 fn, .slice A2 args.length c2] 25)).drewN nq).heap[wr.heap.size]? = some (.cells #[.int .i64 (s : Int), .int .i64 fn, .slice A2 args.length c2] 25 (0, 0))) := hid (blk_new _ _)
        have HK1 : Hid (Kp wr ((wr.alloc (.cells #[.int .i64 (s : Int), .int .i64 fn, .slice A2 args.length c2] 25)).drewN nq)) := hid (((Kp.refl _).alloc _).drewN nq)
        generalize ((wr.alloc (.cells #[.int .i64 (s : Int), .int .i64 fn, .slice A2 args.length c2] 25)).drewN nq) = W1 at HB HK1 ⊢
        have hw1 := blk_lt HB.out
        refine wp_region_last 5 [[], [0], [], [2], [1], [3, 4]] (fun u => Kp W1 u)
          [fun (y : Value) (u : World) => y = (.pointer (some ⟨wr.heap.size, 0, none⟩) : Value),
           fun (y : Value) (u : World) => y = (.int .i64 (s : Int) : Value),
           fun (y : Value) (u : World) => y = (.agg #[.int .i64 (s : Int), .int .i64 fn, .slice A2 args.length c2] : Value),
           fun (y : Value) (u : World) => OCall u (w.heap.size + 1) y ⟨s, fn, args⟩,
           fun (y : Value) (u : World) => y = (.pointer (some ⟨w.heap.size, s * 3, none⟩) : Value)]
          (by kernel_rfl) (by kernel_rfl) (by kernel_rfl) (by kernel_rfl) (by kernel_rfl) (by kernel_rfl) ((Kp.refl _).drew) (fun _ _ hk h => h.trans hk) ⟨fun _ _ _ _ h => h, fun _ _ _ _ h => h, fun _ _ _ _ h => h, fun _ _ _ hk h => h.kp hk, fun _ _ _ _ h => h, trivial⟩ ⟨?sb0, ?sb1, ?sb2, ?sb3, ?sb4, trivial⟩ ⟨?hEb, trivial⟩
        case sb0 =>
          intro x u hg hd K hK
          clear hd
          refine ⟨?_⟩
          simp only [putsFrom, Act.put, List.setIfInBounds_toArray, List.set_cons_zero, List.set_cons_succ, Nat.reduceAdd] at hK ⊢
          go_simp
          exact hK.out _ _ (Kp.refl _) rfl
        case sb1 =>
          intro x u hg hd K hK
          have d0 : (x 0) = .pointer (some ⟨wr.heap.size, 0, none⟩) := And.left hd
          clear hd
          have q0 := blk_cell (o := 0) (v := .int .i64 (s : Int)) ((hg.block _ hw1).trans HB.out) rfl
          refine ⟨?_⟩
          simp only [putsFrom, Act.put, List.setIfInBounds_toArray, List.set_cons_zero, List.set_cons_succ, Nat.reduceAdd, d0] at hK ⊢
          go_simp
          exact hK.out _ _ (Kp.refl _) rfl
        case sb2 =>
          intro x u hg hd K hK
          clear hd
          have q0 := blk_cell (o := 0) (v := .int .i64 (s : Int)) ((hg.block _ hw1).trans HB.out) rfl
          have q1 := blk_cell (o := 1) (v := .int .i64 fn) ((hg.block _ hw1).trans HB.out) rfl
          have q2 := blk_cell (o := 2) (v := .slice A2 args.length c2) ((hg.block _ hw1).trans HB.out) rfl
          refine ⟨?_⟩
          simp only [putsFrom, Act.put, List.setIfInBounds_toArray, List.set_cons_zero, List.set_cons_succ, Nat.reduceAdd] at hK ⊢
          go_simp
          exact hK.out _ _ (Kp.refl _) rfl
        case sb3 =>
          intro x u hg hd K hK
          have d2 : (x 2) = .agg #[.int .i64 (s : Int), .int .i64 fn, .slice A2 args.length c2] := And.left hd
          clear hd
          refine ⟨?_⟩
          simp only [putsFrom, Act.put, List.setIfInBounds_toArray, List.set_cons_zero, List.set_cons_succ, Nat.reduceAdd, d2] at hK ⊢
          go_simp
          go_at_call 43
          have hc := copied_any _ _ u (HR.out.kp (HK1.out.trans hg))
          refine hc.mono ?_
          clear hc
          rintro e u' ⟨⟨v', rfl, h⟩, hk⟩
          dsimp only
          exact hK.out _ _ hk (h.base (by have := (HK1.out.trans hg).le; omega))
        case sb4 =>
          intro x u hg hd K hK
          have d1 : (x 1) = .int .i64 (s : Int) := And.left hd
          clear hd
          refine ⟨?_⟩
          simp only [putsFrom, Act.put, List.setIfInBounds_toArray, List.set_cons_zero, List.set_cons_succ, Nat.reduceAdd, d1] at hK ⊢
          go_simp
          exact hK.out _ _ (Kp.refl _) rfl
        intro x u hg he K hK
        have d0 : (x 0) = .pointer (some ⟨wr.heap.size, 0, none⟩) := And.left he
        have d1 : (x 1) = .int .i64 (s : Int) := And.left (And.right he)
        have d2 : (x 2) = .agg #[.int .i64 (s : Int), .int .i64 fn, .slice A2 args.length c2] := And.left (And.right (And.right he))
        have d3 : OCall u (w.heap.size + 1) (x 3) ⟨s, fn, args⟩ := And.left (And.right (And.right (And.right he)))
        have d4 : (x 4) = .pointer (some ⟨w.heap.size, s * 3, none⟩) := And.left (And.right (And.right (And.right (And.right he))))
        clear he
        obtain ⟨la3, e3, o3, ok3⟩ := d3
        obtain ⟨A3, c3, rfl⟩ := own_form o3
        have HG := hid hg
        have HO3 := hid o3
        have HKU := hid ((HKA.out.kp HK1.out).kp hg)
        have bx0 := HKU.out.box (s * 3) (by omega)
        have bx1 := HKU.out.box (s * 3 + 1) (by omega)
        have bx2 := HKU.out.box (s * 3 + 2) (by omega)
        clear o3 ok3
        refine ⟨?_⟩
        simp only [putsFrom, Act.put, List.setIfInBounds_toArray, List.set_cons_zero, List.set_cons_succ, Nat.reduceAdd, d0, d1, d2, d4, e3] at hK ⊢
        go_simp
        refine hK.out undef _ ⟨?_⟩
        clear hK
        clear d0 d1 d2 d4
        clear e3
        have hput := HKU.out.put (m := ⟨s, fn, args⟩) (la := .slice A3 args.length c3) (fun a ha => ⟨(HS.out.1 a (List.mem_of_mem_take ha)).1, SP.out a ha⟩) s0 s8 HO3.out HOK.out (Nat.lt_succ_self _)
        rw [take_snoc HM.out] at hput
        have HP := hid hput
        have HKE : Kp w (((u.setCell ⟨w.heap.size, s * 3, none⟩ (.int .i64 (s : Int))).setCell ⟨w.heap.size, s * 3 + 1, none⟩ (.int .i64 fn)).setCell ⟨w.heap.size, s * 3 + 2, none⟩ (.slice A3 args.length c3)) := ((((HKP.out.trans HK1.out).trans HG.out).setCell (Nat.le_refl _) _).setCell (Nat.le_refl _) _).setCell (Nat.le_refl _) _
        clear hput bx0 bx1 bx2
        go_wp2
        go_roundw
        case rel => exact ⟨k + 1, hlt, by simp, rfl, HP.out, HKE⟩
        case measure => simp [intOf]; omega
      · replace w1 := w1 (by simpa using p0); replace w3 := w3 (by simpa using p0)
        go_wp2
        go_quiet (fail)
        go_wp2
        have HB : Hid (((wr.alloc (.cells #[.int .i64 (s : Int), .int .i64 fn, .slice A2 args.length c2] 25)).drewN nq).heap[wr.heap.size]? = some (.cells #[.int .i64 (s : Int), .int .i64 fn, .slice A2 args.length c2] 25 (0, 0))) := hid (blk_new _ _)
        have HK1 : Hid (Kp wr ((wr.alloc (.cells #[.int .i64 (s : Int), .int .i64 fn, .slice A2 args.length c2] 25)).drewN nq)) := hid (((Kp.refl _).alloc _).drewN nq)
        generalize ((wr.alloc (.cells #[.int .i64 (s : Int), .int .i64 fn, .slice A2 args.length c2] 25)).drewN nq) = W1 at HB HK1 ⊢
        have hw1 := blk_lt HB.out
        refine wp_region_last 5 [[], [0], [], [2], [1], [3, 4]] (fun u => Kp W1 u)
          [fun (y : Value) (u : World) => y = (.pointer (some ⟨wr.heap.size, 0, none⟩) : Value),
           fun (y : Value) (u : World) => y = (.int .i64 (s : Int) : Value),
           fun (y : Value) (u : World) => y = (.agg #[.int .i64 (s : Int), .int .i64 fn, .slice A2 args.length c2] : Value),
           fun (y : Value) (u : World) => OCall u (w.heap.size + 1) y ⟨s, fn, args⟩,
           fun (y : Value) (u : World) => y = (.pointer (some ⟨w.heap.size, s * 3, none⟩) : Value)]
          (by kernel_rfl) (by kernel_rfl) (by kernel_rfl) (by kernel_rfl) (by kernel_rfl) (by kernel_rfl) ((Kp.refl _).drew) (fun _ _ hk h => h.trans hk) ⟨fun _ _ _ _ h => h, fun _ _ _ _ h => h, fun _ _ _ _ h => h, fun _ _ _ hk h => h.kp hk, fun _ _ _ _ h => h, trivial⟩ ⟨?sc0, ?sc1, ?sc2, ?sc3, ?sc4, trivial⟩ ⟨?hEc, trivial⟩
        case sc0 =>
          intro x u hg hd K hK
          clear hd
          refine ⟨?_⟩
          simp only [putsFrom, Act.put, List.setIfInBounds_toArray, List.set_cons_zero, List.set_cons_succ, Nat.reduceAdd] at hK ⊢
          go_simp
          exact hK.out _ _ (Kp.refl _) rfl
        case sc1 =>
          intro x u hg hd K hK
          have d0 : (x 0) = .pointer (some ⟨wr.heap.size, 0, none⟩) := And.left hd
          clear hd
          have q0 := blk_cell (o := 0) (v := .int .i64 (s : Int)) ((hg.block _ hw1).trans HB.out) rfl
          refine ⟨?_⟩
          simp only [putsFrom, Act.put, List.setIfInBounds_toArray, List.set_cons_zero, List.set_cons_succ, Nat.reduceAdd, d0] at hK ⊢
          go_simp
          exact hK.out _ _ (Kp.refl _) rfl
        case sc2 =>
          intro x u hg hd K hK
          clear hd
          have q0 := blk_cell (o := 0) (v := .int .i64 (s : Int)) ((hg.block _ hw1).trans HB.out) rfl
          have q1 := blk_cell (o := 1) (v := .int .i64 fn) ((hg.block _ hw1).trans HB.out) rfl
          have q2 := blk_cell (o := 2) (v := .slice A2 args.length c2) ((hg.block _ hw1).trans HB.out) rfl
          refine ⟨?_⟩
          simp only [putsFrom, Act.put, List.setIfInBounds_toArray, List.set_cons_zero, List.set_cons_succ, Nat.reduceAdd] at hK ⊢
          go_simp
          exact hK.out _ _ (Kp.refl _) rfl
        case sc3 =>
          intro x u hg hd K hK
          have d2 : (x 2) = .agg #[.int .i64 (s : Int), .int .i64 fn, .slice A2 args.length c2] := And.left hd
          clear hd
          refine ⟨?_⟩
          simp only [putsFrom, Act.put, List.setIfInBounds_toArray, List.set_cons_zero, List.set_cons_succ, Nat.reduceAdd, d2] at hK ⊢
          go_simp
          go_at_call 43
          have hc := copied_any _ _ u (HR.out.kp (HK1.out.trans hg))
          refine hc.mono ?_
          clear hc
          rintro e u' ⟨⟨v', rfl, h⟩, hk⟩
          dsimp only
          exact hK.out _ _ hk (h.base (by have := (HK1.out.trans hg).le; omega))
        case sc4 =>
          intro x u hg hd K hK
          have d1 : (x 1) = .int .i64 (s : Int) := And.left hd
          clear hd
          refine ⟨?_⟩
          simp only [putsFrom, Act.put, List.setIfInBounds_toArray, List.set_cons_zero, List.set_cons_succ, Nat.reduceAdd, d1] at hK ⊢
          go_simp
          exact hK.out _ _ (Kp.refl _) rfl
        intro x u hg he K hK
        have d0 : (x 0) = .pointer (some ⟨wr.heap.size, 0, none⟩) := And.left he
        have d1 : (x 1) = .int .i64 (s : Int) := And.left (And.right he)
        have d2 : (x 2) = .agg #[.int .i64 (s : Int), .int .i64 fn, .slice A2 args.length c2] := And.left (And.right (And.right he))
        have d3 : OCall u (w.heap.size + 1) (x 3) ⟨s, fn, args⟩ := And.left (And.right (And.right (And.right he)))
        have d4 : (x 4) = .pointer (some ⟨w.heap.size, s * 3, none⟩) := And.left (And.right (And.right (And.right (And.right he))))
        clear he
        obtain ⟨la3, e3, o3, ok3⟩ := d3
        obtain ⟨A3, c3, rfl⟩ := own_form o3
        have HG := hid hg
        have HO3 := hid o3
        have HKU := hid ((HKA.out.kp HK1.out).kp hg)
        have bx0 := HKU.out.box (s * 3) (by omega)
        have bx1 := HKU.out.box (s * 3 + 1) (by omega)
        have bx2 := HKU.out.box (s * 3 + 2) (by omega)
        clear o3 ok3
        refine ⟨?_⟩
        simp only [putsFrom, Act.put, List.setIfInBounds_toArray, List.set_cons_zero, List.set_cons_succ, Nat.reduceAdd, d0, d1, d2, d4, e3] at hK ⊢
        go_simp
        refine hK.out undef _ ⟨?_⟩
        clear hK
        clear d0 d1 d2 d4
        clear e3
        have hput := HKU.out.put (m := ⟨s, fn, args⟩) (la := .slice A3 args.length c3) (fun a ha => ⟨(HS.out.1 a (List.mem_of_mem_take ha)).1, SP.out a ha⟩) s0 s8 HO3.out HOK.out (Nat.lt_succ_self _)
        rw [take_snoc HM.out] at hput
        have HP := hid hput
        have HKE : Kp w (((u.setCell ⟨w.heap.size, s * 3, none⟩ (.int .i64 (s : Int))).setCell ⟨w.heap.size, s * 3 + 1, none⟩ (.int .i64 fn)).setCell ⟨w.heap.size, s * 3 + 2, none⟩ (.slice A3 args.length c3)) := ((((HKP.out.trans HK1.out).trans HG.out).setCell (Nat.le_refl _) _).setCell (Nat.le_refl _) _).setCell (Nat.le_refl _) _
        clear hput bx0 bx1 bx2
        go_wp2
        go_roundw
        case rel => exact ⟨k + 1, hlt, by simp, rfl, HP.out, HKE⟩
        case measure => simp [intOf]; omega
    · obtain rfl : k = l.length := by omega
      have i1 : ¬ (l.length : Int) < (l.length : Int) := by omega
      rw [List.take_length] at hka ⊢
      have HK0 := hid hka
      have HKP := hid hkp
      clear hka hkp hlt hk
      go_wp2
      go_loopw [6, 11] (fun o mv wr => ∃ k : Nat, k ≤ l.length ∧ mv = .int .i64 (maskOf (l.take k) : Nat) ∧ KeptAt wr (w.heap.size + 1) w.heap.size (l.take k) ∧ OCalls wr (w.heap.size + 1) o (l.drop k).reverse ∧ Kp w wr) (fun o _ _ => l.length - lenOf o)
      case atStart => exact ⟨l.length, Nat.le_refl _, by rw [List.take_length], by rw [List.take_length]; exact HK0.out, by rw [List.drop_length]; exact OwnL.nil _ _ _ _ _, HKP.out⟩
      case round =>
        obtain ⟨k, hk, rfl, hka, ho, hkp⟩ := hrel
        have hsz : w.heap.size + 1 ≤ wr.heap.size := by obtain ⟨_, hz, _⟩ := hka; exact blk_lt hz
        have HKA := hid hka; have HO := hid ho; have HKP := hid hkp
        clear hka ho hkp
        cases k with
        | zero =>
          rw [List.drop_zero] at HO
          simp only [List.take_zero, maskOf, List.foldl_nil, Int.ofNat_zero] at *
          go_wp2_with (go_at_call 22; go_must (refine (top_zero _).mono ?_); rintro e w' ⟨rfl, rfl⟩)
          go_ret2
          exact ⟨⟨_, rfl, HO.out.base (by omega)⟩, HKP.out⟩
        | succ j =>
          obtain ⟨m, hm⟩ : ∃ m, l[j]? = some m := ⟨l[j], List.getElem?_eq_getElem (by omega)⟩
          have HM := hid hm
          obtain ⟨s0, s8, sp, sM, sM8⟩ := HS.out.at_ hm
          have hmem : m ∈ l.take (j + 1) := by rw [← take_snoc hm]; simp
          obtain ⟨la, q0, q1, q2, oo, ok⟩ := HKA.out.get hmem
          have HKB := hid (HKA.out.sub (S' := l.take j) (fun a ha => by rw [← take_snoc hm]; simp [ha]))
          have HD := hid (drop_rev hm)
          have hdl : (l.drop (j + 1)).reverse.length = l.length - (j + 1) := by simp
          have B1 := hid (show l.length - (j + 1) + 1 ≤ maxLen by unfold maxLen; omega)
          have B2 := hid (show (l.length - (j + 1) + 1) * 40 ≤ 140737488355328 by omega)
          obtain ⟨site, fn, args⟩ := m
          obtain ⟨s, rfl⟩ := nat_of s0
          dsimp only at q0 q1 q2 s0 s8 sM sM8 oo ok
          rw [Int.toNat_natCast] at q0 q1 q2 sM
          have hs8 : s < 8 := by omega
          obtain ⟨m1, m2, m3, m4, m5⟩ := mask_facts s hs8 _ sM8 sM
          have hM : maskOf (l.take (j + 1)) = maskOf (l.take j) ||| 2 ^ s := by rw [← take_snoc hm, maskOf_snoc]; simp
          have C1 : Hid (∀ w, Calls Try.prog 22 #[.int .i64 ((maskOf (l.take (j + 1)) : Nat) : Int)] w fun e w' => e = .returned (.tuple #[.int .i64 (s : Int), .bool true]) ∧ w = w') := hid fun w => by
            have := top_in (maskOf (l.take (j + 1))) w (by rw [hM]; exact m1) (by rw [hM]; exact m2)
            rw [hM, m3] at this
            rw [hM]
            have e : (((s + 1 : Nat) : Int) - 1) = (s : Int) := by omega
            rw [e] at this; exact this
          have C2 : Hid (∀ w, Calls Try.prog 23 #[.int .i64 ((maskOf (l.take (j + 1)) : Nat) : Int), .int .i64 (s : Int)] w fun e w' => e = .returned (.tuple #[.int .i64 ((maskOf (l.take j) : Nat) : Int), .int .i64 0]) ∧ w = w') := hid fun w => by
            have := drop_in (maskOf (l.take (j + 1))) s w (by rw [hM]; exact m1) hs8 (by rw [hM]; exact m4)
            rw [hM, m5] at this
            rw [hM]; exact this
          obtain ⟨A3, c3, rfl⟩ := own_form oo
          obtain ⟨xs, hown, hch⟩ := HO.out
          have HOwn := hid hown; have HCh := hid hch; have HOO := hid oo
          obtain ⟨Ao, co, rfl⟩ := own_form hown
          rw [hdl] at HOwn
          have hdl' := hid hdl
          clear hm sp sM sM8 m1 m2 m3 m4 m5 hM oo hown hch hmem hdl
          go_wp2_with (first
            | (go_at_call 22; go_must (refine (C1.out _).mono ?_); rintro e w' ⟨rfl, rfl⟩)
            | (go_at_call 23; go_must (refine (C2.out _).mono ?_); rintro e w' ⟨rfl, rfl⟩)
            | (at_builtin; go_must (refine app_lit elCall rfl _ _ rfl HOwn.out rfl _ _ 1 1 rfl rfl (by intro u hu; simp at hu; rcases hu with rfl | rfl | rfl <;> rfl) B1.out B2.out hsz ?_); intro v2 v2w hown3 hg2 hm2 _ hb2; clear q0 q1 q2))
          have HT : Touch 25 wr v2w := Touch.of_grown HOwn.out hg2
          have hnb : Hid (OCalls v2w (w.heap.size + 1) v2 (l.drop j).reverse) := hid (by
            rw [HD.out]
            have h := HOwn.out
            rw [← hdl'.out] at h
            exact OCalls.snoc (cs := #[.int .i64 (s : Int), .int .i64 fn, .slice A3 args.length c3]) HCh.out h (by rw [hdl'.out]; exact hg2) rfl (by rw [hdl'.out]) hown3 HOO.out (Nat.le_refl _) ok)
          have HKN := hid (HKB.out.touch HT)
          have HKW : Kp w v2w := Below.trans HKP.out (Below.mono hb2 (by omega))
          obtain ⟨A9, c9, rfl⟩ := own_form hown3
          clear hown3 hg2 hm2 hb2 HT
          go_wp2
          go_roundw
          case rel => exact ⟨j, by omega, rfl, HKN.out, hnb.out, HKW⟩
          case measure => simp [lenOf]; omega
end Go.Proofs.Ytmcidhjcimjeiaa
