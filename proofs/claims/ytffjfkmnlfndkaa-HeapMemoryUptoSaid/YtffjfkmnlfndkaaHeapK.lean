/-
  The heap laws' own helpers: chosen, sameBlock; how a list of blocks is read. Condition: at most a million picks.
-/
import Derived.Test.YtffjfkmnlfndkaaHeapM
import Derived.Test.YtffjfkmnlfndkaaBulk
import Derived.Deep.QuietTactic
import Derived.BigQuiet
namespace Go.Proofs.Ytffjfkmnlfndkaa
open Go.RowKit Go.ChangeShapes Go.WideShapes
set_option linter.unusedVariables false

section
variable {H : Type} {enc : TypeId × Value → H} {W : World} {base : Nat} {v : Value} {d : DataW H} {p : List MemPlace}
def RdIntsU (w : World) (v : Value) (l : List Int) : Prop := RdInts w v l ∧ l.length ≤ 1048576
set_option maxRecDepth 100000 in
theorem open_intsU (hval : Value.okWide Try.prog W .any base 26 v) (h : DataW.Trod enc Try.prog W 0 (fun _ => true) true 26 v d p) (hz : ∀ n ∈ DataW.weights Try.prog 26 d, n ≤ reachBytes) (hb : Rows.uptoBulk d ≤ 1048576) : ∃ l, RdIntsU W v l := by
  obtain ⟨l, hl⟩ := open_ints_ hval h hz
  obtain ⟨fuel, hf⟩ := h
  obtain ⟨A, c, rfl⟩ := hl.form
  have := ints_bulk hf rfl
  exact ⟨l, hl, by omega⟩
end
theorem RdInts.at_ {w : World} {A : Option Addr} {n c : Nat} {xs : List Int} (h : RdInts w (.slice A n c) xs) {j : Nat} (hj : j < xs.length) : ∃ b off, A = some ⟨b, off, none⟩ ∧ b < w.heap.size ∧ w.cell? ⟨b, off + j, none⟩ = some (.int .i64 (xs.getD j 0)) := by
  obtain ⟨_, _, A', c', e, _, h3⟩ := h
  cases e
  obtain ⟨b, off, e, hb, hc⟩ := h3 (by omega)
  exact ⟨b, off, e, hb, hc j hj⟩
theorem OBlks.rd {w : World} {base : Nat} {v : Value} {l : List BlockM} (h : OBlks w base v l) : RdL (CeB base) 3 w v l := OwnL.rd h
theorem rd_blk {w : World} {base : Nat} {A : Option Addr} {n c : Nat} {l : List BlockM} {i : Nat} {m : BlockM} (h : RdL (CeB base) 3 w (.slice A n c) l) (hi : l[i]? = some m) : ∃ b off la, A = some ⟨b, off, none⟩ ∧ b < w.heap.size ∧ w.cell? ⟨b, off + i * 3, none⟩ = some (.int .i64 m.pos) ∧ w.cell? ⟨b, off + i * 3 + 1, none⟩ = some (.int .i64 m.shape) ∧ w.cell? ⟨b, off + i * 3 + 2, none⟩ = some la ∧ OCells w base la m.cells := by
  obtain ⟨b, off, cs, g1, g2, ⟨la, rfl, ho⟩, _, g4⟩ := RdL.at_ h hi
  exact ⟨b, off, la, g1, g2, g4 0 (by omega), g4 1 (by omega), g4 2 (by omega), ho⟩
theorem MadeOk.collect {room : Nat} {H : HeapM} {at_ : List Int} (h : MadeOk room (H, at_)) (roots : List CellM) : MadeOk room (collectH H roots, []) := by
  have hs : SoundS H.sizes := h.sound
  have l1 : H.sizes.length = H.cells.length := h.lsz
  have l2 : H.shapes.length = H.cells.length := h.lsh
  refine ⟨sound_less hs (lessL_len _ _) (fun q => ?_), (lessL_len _ _).trans l1, (lessL_len _ _).trans l2, h.room_, fun p hp => by simp at hp⟩
  show sz (lessL _ H.sizes) q = _ ∨ sz (lessL _ H.sizes) q = 0
  rw [lessL_sz]
  split
  · exact .inr rfl
  · exact .inl rfl
theorem MadeOk.alloc' {room : Nat} {H : HeapM} {at_ : List Int} (h : MadeOk room (H, at_)) (t n : Int) : MadeOk room (allocM H t n, []) := by
  by_cases ha : (allocC H t n).2 = 0
  · have := h.alloc ha
    exact ⟨this.sound, this.lsz, this.lsh, this.room_, fun p hp => by simp at hp⟩
  · have e : allocM H t n = H := by unfold allocM; rw [if_neg ha]
    rw [e]
    exact ⟨h.sound, h.lsz, h.lsh, h.room_, fun p hp => by simp at hp⟩
/-! ### chosen -/
noncomputable def pickC (at_ : List Int) (p : Int) : CellM := ⟨6, at_.getD (spotV p at_.length).toNat 0⟩
noncomputable def chosenM (at_ picks : List Int) : List CellM := if at_.length = 0 then [] else picks.map (pickC at_)
theorem chosenM_len (at_ picks : List Int) : (chosenM at_ picks).length ≤ picks.length := by unfold chosenM; split <;> simp
set_option maxRecDepth 20000 in
set_option maxHeartbeats 2000000 in
theorem chosen_any (w : World) (av pv : Value) (at_ picks : List Int) (ha : RdInts w av at_) (hp' : RdIntsU w pv picks) : Calls Try.prog 22 #[av, pv] w fun e w' => (∃ v, e = .returned v ∧ OCells w' w.heap.size v (chosenM at_ picks)) ∧ Kp w w' := by
  obtain ⟨hp, hpl⟩ := hp'
  obtain ⟨A, c, rfl⟩ := ha.form
  obtain ⟨B, c2, rfl⟩ := hp.form
  have hal : at_.length * 8 ≤ 140737488355328 := ha.1
  have HA := hid ha; have HP := hid hp; have HAL := hid hal
  clear ha hp hal
  go_enter Try.func22, Try.ntmps22
  rcases Nat.eq_zero_or_pos at_.length with h0 | h0
  · have i0 : ¬ (0 : Int) < (at_.length : Int) := by omega
    have e : chosenM at_ picks = [] := by unfold chosenM; rw [if_pos h0]
    rw [e]
    go_wp2
    go_loopw [5, 6] (fun v i wr => v = .slice none 0 0 ∧ i = .int .i64 0 ∧ wr = w) (fun _ _ _ => 0)
    case atStart => exact ⟨rfl, rfl, rfl⟩
    case round =>
      obtain ⟨rfl, rfl, rfl⟩ := hrel
      go_wp2
      all_goals
        go_ret
        exact ⟨⟨_, rfl, OwnL.nil _ _ _ _ _⟩, Kp.refl _⟩
  · have i0 : (0 : Int) < (at_.length : Int) := by omega
    have e : chosenM at_ picks = picks.map (pickC at_) := by unfold chosenM; rw [if_neg (by omega)]
    rw [e]
    have L63 := hid (show (at_.length : Int) ≤ 9223372036854775807 by have := HAL.out; omega)
    have I0 := hid i0
    clear e
    go_wp2
    go_loopw [5, 6] (fun v i wr => ∃ k : Nat, k ≤ picks.length ∧ i = .int .i64 k ∧ OCells wr w.heap.size v ((picks.take k).map (pickC at_)) ∧ Kp w wr) (fun _ i _ => picks.length - lenI i)
    case atStart => exact ⟨0, by omega, rfl, OwnL.nil _ _ _ _ _, Kp.refl _⟩
    case round =>
      obtain ⟨k, hk, rfl, hown, hkp⟩ := hrel
      have HO := hid hown; have HK := hid hkp
      have hwl : w.heap.size ≤ wr.heap.size := hkp.le
      clear hown hkp
      by_cases hlt : k < picks.length
      · have i1 : (k : Int) < (picks.length : Int) := by omega
        have j0 : (0 : Int) ≤ (k : Int) := by omega
        obtain ⟨p, hp⟩ : ∃ p, picks.getD k 0 = p := ⟨_, rfl⟩
        obtain ⟨b, off, rfl, hb, g0⟩ := (HP.out.kp HK.out).at_ hlt
        rw [hp] at g0
        obtain ⟨z0, z1⟩ := spotV_bd p at_.length i0
        obtain ⟨q, hq⟩ : ∃ q : Nat, spotV p at_.length = q := ⟨(spotV p at_.length).toNat, by omega⟩
        rw [hq] at z0 z1
        obtain ⟨b2, off2, rfl, hb2, g1⟩ := (HA.out.kp HK.out).at_ (j := q) (by omega)
        obtain ⟨r, hr⟩ : ∃ r, at_.getD q 0 = r := ⟨_, rfl⟩
        rw [hr] at g1
        have hpc : pickC at_ p = ⟨6, r⟩ := by unfold pickC; rw [hq, ← hr]; rfl
        have HPC := hid hpc; have HQ := hid hq; have HPP := hid hp
        have hl : ((picks.take k).map (pickC at_)).length = k := by simp; omega
        obtain ⟨A3, c3, e3⟩ := HO.out.form
        rw [hl] at e3
        subst e3
        obtain ⟨xs, hx1, hx2⟩ := HO.out
        rw [hl] at hx1
        have b1 : k + 1 ≤ maxLen := by unfold maxLen; omega
        have b2' : (k + 1) * 16 ≤ 140737488355328 := by omega
        have B1 := hid b1; have B2 := hid b2'; have HX1 := hid hx1; have HX2 := hid hx2
        clear hpc hq hp hr b1 b2' hx1 hx2
        go_wp2_with first | (go_at_call 17; go_must (refine (spot_any p at_.length _ I0.out L63.out).mono ?_); rintro e w4 ⟨rfl, rfl⟩; rw [HQ.out]) | (at_builtin; go_must (refine app_lit elCell rfl (.tmp 18) (.tmp 30) rfl HX1.out rfl _ _ 1 1 rfl rfl (by intro u hu; simp at hu; rcases hu with rfl | rfl <;> rfl) B1.out B2.out hwl ?_); intro v2 w2 hown2 hg2 hm2 hn2 hb3)
        go_roundw
        case rel =>
          have e : (picks.take (k + 1)).map (pickC at_) = (picks.take k).map (pickC at_) ++ [⟨6, r⟩] := by
            rw [List.take_add_one, List.getElem?_eq_getElem hlt, List.map_append, ← HPC.out, ← HPP.out]
            simp [List.getD, List.getElem?_eq_getElem hlt]
          refine ⟨k + 1, by omega, rfl, ?_, Below.trans HK.out hb3⟩
          rw [e]
          refine OCells.app HX2.out (l' := [⟨6, r⟩]) (ys := [.int .i64 6, .int .i64 r]) (Chunk.one rfl rfl) ?_
          rw [hl]; exact hown2
        case measure => simp only [lenI]; omega
      · obtain rfl : k = picks.length := by omega
        have i1 : ¬ (picks.length : Int) < (picks.length : Int) := by omega
        go_wp2
        go_ret
        exact ⟨⟨_, rfl, by have := HO.out; rw [List.take_length] at this; exact this⟩, HK.out⟩
end Go.Proofs.Ytffjfkmnlfndkaa
