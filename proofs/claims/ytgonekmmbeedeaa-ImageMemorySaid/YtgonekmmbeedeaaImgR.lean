/-
  Package image: the reader's methods. Condition: what comes in lies within the reach.
-/
import Derived.Test.YtgonekmmbeedeaaImgPk
namespace Go.Proofs.Ytgonekmmbeedeaa
open Go.RowKit
set_option linter.unusedVariables false
set_option linter.unusedSimpArgs false

/-- Where a piece of a row begins. -/
def cutA (A : Option Addr) (c k : Nat) : Option Addr := if c = k then A else A.map (·.add k)
theorem byte_size (w : World) : (sizeOf (Try.prog.elem 26)).run Try.prog w = .ok 1 w := by kernel_rfl
theorem byte_und : Try.prog.underlying 26 = some (.slice (Try.prog.elem 26)) := by kernel_rfl
theorem sl_l (A : Option Addr) (n c k : Nat) (h : k ≤ n) (w : World) : Sem.run Try.prog (Instr.slice 26 (.slice A n c) (some (.int .i64 (k : Int))) none none) w = .ok (.slice (cutA A c k) (n - k) (c - k)) w := by
  rw [run_slice_l w _ A n c byte_und .i64 k (by omega) (by omega), byte_size]
  simp [sliced, Result.andThen, cutA]
theorem sl_h (A : Option Addr) (n c k : Nat) (h : k ≤ c) (w : World) : Sem.run Try.prog (Instr.slice 26 (.slice A n c) none (some (.int .i64 (k : Int))) none) w = .ok (.slice A k c) w := by
  rw [run_slice_h w _ A n c byte_und .i64 k (by omega) (by omega), byte_size]
  have e : ∀ a : Addr, a.add 0 = a := fun a => by unfold Addr.add; simp
  simp [sliced, Result.andThen, e]
theorem sl_lh (A : Option Addr) (n c l k : Nat) (hl : l ≤ k) (h : k ≤ c) (w : World) : Sem.run Try.prog (Instr.slice 26 (.slice A n c) (some (.int .i64 (l : Int))) (some (.int .i64 (k : Int))) none) w = .ok (.slice (cutA A c l) (k - l) (c - l)) w := by
  rw [run_slice_lh w _ A n c byte_und .i64 .i64 l k (by omega) (by omega) (by omega), byte_size]
  simp [sliced, Result.andThen, cutA]
theorem RdBytes.len {w : World} {A : Option Addr} {n c : Nat} {bs : List UInt8} (h : RdBytes w (.slice A n c) bs) : n = bs.length ∧ n ≤ c ∧ n ≤ 140737488355328 := by
  obtain ⟨h0, A', c', h1, h2, _⟩ := h
  cases h1; exact ⟨rfl, h2, h0⟩
theorem RdBytes.drop {w : World} {A : Option Addr} {n c k : Nat} {bs : List UInt8} (h : RdBytes w (.slice A n c) bs) (hk : k ≤ n) : RdBytes w (.slice (cutA A c k) (n - k) (c - k)) (bs.drop k) := by
  obtain ⟨h0, A', c', h1, h2, h3⟩ := h
  cases h1
  refine ⟨by rw [List.length_drop]; omega, cutA A c k, c - k, by rw [List.length_drop], by rw [List.length_drop]; omega, fun hp => ?_⟩
  rw [List.length_drop] at hp
  obtain ⟨b, off, rfl, hb, hc⟩ := h3 (by omega)
  refine ⟨b, off + k, ?_, hb, fun j hj => ?_⟩
  · unfold cutA; rw [if_neg (by omega)]
    show some _ = some _
    congr 1
    unfold Addr.add; split <;> simp_all
  · rw [List.length_drop] at hj
    rw [Nat.add_assoc, hc (k + j) (by omega)]
    simp [List.getD]
theorem RdBytes.take {w : World} {A : Option Addr} {n c k : Nat} {bs : List UInt8} (h : RdBytes w (.slice A n c) bs) (hk : k ≤ n) : RdBytes w (.slice A k c) (bs.take k) := by
  obtain ⟨h0, A', c', h1, h2, h3⟩ := h
  cases h1
  have hl : (bs.take k).length = k := by rw [List.length_take]; omega
  refine ⟨by omega, A, c, by rw [hl], by omega, fun hp => ?_⟩
  obtain ⟨b, off, rfl, hb, hc⟩ := h3 (by omega)
  refine ⟨b, off, rfl, hb, fun j hj => ?_⟩
  rw [hc j (by omega)]
  simp [List.getD, List.getElem?_take, show j < k by omega]
/-- The reader's box: what is left of bytes that lie in the world W. -/
def RdrB (W w : World) (rb : Nat) (s : RSt) : Prop := ∃ A c, w.heap[rb]? = some (.cells #[.slice A s.b.length c, .bool s.bad] 73 (0, 0)) ∧ RdBytes W (.slice A s.b.length c) s.b
theorem RdrB.len {W w : World} {rb : Nat} {s : RSt} (h : RdrB W w rb s) : s.b.length ≤ 140737488355328 := by
  obtain ⟨A, c, _, h⟩ := h; exact h.len.2.2
theorem RdrB.kp {W w w' : World} {rb : Nat} {s : RSt} (h : RdrB W w rb s) (hk : Kp w w') : RdrB W w' rb s := by
  obtain ⟨A, c, h1, h2⟩ := h
  exact ⟨A, c, (hk.block _ (blk_lt h1)).trans h1, h2⟩
theorem RdrB.far {W w w' : World} {rb : Nat} {s : RSt} (h : RdrB W w rb s) {row : Option Nat} (hg : w.grownBy w' row) (hne : some rb ≠ row) : RdrB W w' rb s := by
  obtain ⟨A, c, h1, h2⟩ := h
  exact ⟨A, c, grown_blk hg h1 hne, h2⟩
theorem tkV_le : ∀ (l : List UInt8) (i u U K : Nat), tkV i u l = some (U, K) → K ≤ i + l.length := by
  intro l i u U K h
  obtain ⟨x, r, rfl, _, rfl, _⟩ := tk_inv l i u U K h
  rw [List.length_append]; omega
set_option maxRecDepth 20000 in
set_option maxHeartbeats 4000000 in
theorem rnum_any (W w : World) (rb : Nat) (s : RSt) (h : RdrB W w rb s) (hk : Kp W w) : Calls Try.prog 46 #[.pointer (some ⟨rb, 0, none⟩)] w fun e w' => e = .returned (.int .i64 (numR s).1) ∧ RdrB W w' rb (numR s).2 ∧ w.grownBy w' (some rb) := by
  obtain ⟨A, c, hb, hr⟩ := h
  have c0 := blk_cell (o := 0) (v := Value.slice A s.b.length c) hb rfl
  have c1 := blk_cell (o := 1) (v := Value.bool s.bad) hb rfl
  have f0 := blk_free (o := 0) hb
  have f1 := blk_free (o := 1) hb
  have hlt := blk_lt hb
  have HB := hid hb
  have HR := hid hr
  have HT := take_any _ _ w (hr.kp hk)
  obtain ⟨hl1, hl2, hl3⟩ := hr.len
  clear hb hr
  obtain ⟨bs, bad⟩ := s
  simp only at *
  cases hq : tkV 0 0 bs with
  | none =>
    unfold TkPost at HT
    rw [hq] at HT
    simp only at HT
    have hR : numR ⟨bs, bad⟩ = (0, ⟨bs, true⟩) := by unfold numR; cases bad <;> simp [hq]
    rw [hR]
    clear hR hq
    cases bad
    all_goals
      go_enter Try.func46, Try.ntmps46
      go_wp2_with (go_at_call 70; go_must (refine HT.mono ?_); rintro e w9 ⟨rfl, rfl⟩)
      go_ret
      exact ⟨rfl, ⟨A, c, blk_set HB.out _, HR.out⟩, grown_setCell _⟩
  | some p =>
    obtain ⟨u, k⟩ := p
    unfold TkPost at HT
    rw [hq] at HT
    simp only at HT
    have hkl := tkV_le _ _ _ _ _ hq
    rw [Nat.zero_add] at hkl
    cases bad with
    | true =>
      have hR : numR ⟨bs, true⟩ = (0, ⟨bs, true⟩) := by unfold numR; simp
      rw [hR]
      clear hR hq
      go_enter Try.func46, Try.ntmps46
      go_wp2_with (go_at_call 70; go_must (refine HT.mono ?_); rintro e w9 ⟨rfl, rfl⟩)
      go_ret
      exact ⟨rfl, ⟨A, c, blk_set HB.out _, HR.out⟩, grown_setCell _⟩
    | false =>
      have hR : numR ⟨bs, false⟩ = (unzig u, ⟨bs.drop k, false⟩) := by unfold numR; simp [hq]
      rw [hR]
      have hsl := sl_l A bs.length c k hkl
      clear hR hq
      go_enter Try.func46, Try.ntmps46
      go_wp2_with (go_at_call 70; go_must (refine HT.mono ?_); rintro e w9 ⟨rfl, rfl⟩)
      go_ret
      refine ⟨rfl, ⟨cutA A c k, c - k, ?_, ?_⟩, grown_setCell _⟩
      · rw [List.length_drop]; exact blk_set HB.out _
      · rw [List.length_drop]; exact HR.out.drop hkl
theorem cnt_neg {s : RSt} (h : (numR s).1 < 0) : cntR s = (0, ⟨(numR s).2.b, true⟩) := by unfold cntR; rw [if_pos (.inl h)]
theorem cnt_big {s : RSt} (h : ((numR s).2.b.length : Int) < (numR s).1) : cntR s = (0, ⟨(numR s).2.b, true⟩) := by unfold cntR; rw [if_pos (.inr h)]
theorem cnt_ok {s : RSt} (h : ¬ (numR s).1 < 0) (h2 : ¬ ((numR s).2.b.length : Int) < (numR s).1) : cntR s = numR s := by unfold cntR; rw [if_neg (by rintro (h3 | h3); exact h h3; exact h2 h3)]
theorem cntR_range (s : RSt) : 0 ≤ (cntR s).1 ∧ (cntR s).1.toNat ≤ (cntR s).2.b.length := by
  unfold cntR
  split
  · exact ⟨Int.le_refl _, Nat.zero_le _⟩
  · omega
set_option maxRecDepth 20000 in
set_option maxHeartbeats 4000000 in
theorem rcnt_any (W w : World) (rb : Nat) (s : RSt) (h : RdrB W w rb s) (hk : Kp W w) : Calls Try.prog 44 #[.pointer (some ⟨rb, 0, none⟩)] w fun e w' => e = .returned (.int .i64 (cntR s).1) ∧ RdrB W w' rb (cntR s).2 ∧ w.grownBy w' (some rb) := by
  have HN := rnum_any W w rb s h hk
  clear h
  by_cases h1 : (numR s).1 < 0
  · rw [cnt_neg h1]
    generalize numR s = r at HN h1 ⊢
    obtain ⟨n, bs, bad⟩ := r
    simp only at *
    go_enter Try.func44, Try.ntmps44
    go_wp2_with (go_at_call 46; go_must (refine HN.mono ?_); rintro e w9 ⟨rfl, hr9, hg9⟩; obtain ⟨A, c, hb, hrd⟩ := hr9; have HB := hid hb; have HRD := hid hrd; have HG := hid hg9; have c0 := blk_cell (o := 0) (v := Value.slice A bs.length c) hb rfl; have c1 := blk_cell (o := 1) (v := Value.bool bad) hb rfl; have f1 := blk_free (o := 1) hb; have hlt := blk_lt hb; clear hb hrd hg9)
    go_ret
    exact ⟨rfl, ⟨A, c, blk_set HB.out _, HRD.out⟩, HG.out.trans (grown_setCell _)⟩
  · by_cases h2 : ((numR s).2.b.length : Int) < (numR s).1
    · rw [cnt_big h2]
      generalize numR s = r at HN h1 h2 ⊢
      obtain ⟨n, bs, bad⟩ := r
      simp only at *
      go_enter Try.func44, Try.ntmps44
      go_wp2_with (go_at_call 46; go_must (refine HN.mono ?_); rintro e w9 ⟨rfl, hr9, hg9⟩; obtain ⟨A, c, hb, hrd⟩ := hr9; have HB := hid hb; have HRD := hid hrd; have HG := hid hg9; have c0 := blk_cell (o := 0) (v := Value.slice A bs.length c) hb rfl; have c1 := blk_cell (o := 1) (v := Value.bool bad) hb rfl; have f1 := blk_free (o := 1) hb; have hlt := blk_lt hb; clear hb hrd hg9)
      go_ret
      exact ⟨rfl, ⟨A, c, blk_set HB.out _, HRD.out⟩, HG.out.trans (grown_setCell _)⟩
    · rw [cnt_ok h1 h2]
      generalize numR s = r at HN h1 h2 ⊢
      obtain ⟨n, bs, bad⟩ := r
      simp only at *
      go_enter Try.func44, Try.ntmps44
      go_wp2_with (go_at_call 46; go_must (refine HN.mono ?_); rintro e w9 ⟨rfl, hr9, hg9⟩; obtain ⟨A, c, hb, hrd⟩ := hr9; have HB := hid hb; have HRD := hid hrd; have HG := hid hg9; have c0 := blk_cell (o := 0) (v := Value.slice A bs.length c) hb rfl; have c1 := blk_cell (o := 1) (v := Value.bool bad) hb rfl; have f1 := blk_free (o := 1) hb; have hlt := blk_lt hb; clear hb hrd hg9)
      go_ret
      exact ⟨rfl, ⟨A, c, HB.out, HRD.out⟩, HG.out⟩
set_option maxRecDepth 20000 in
set_option maxHeartbeats 4000000 in
theorem rtxt_any (W w : World) (rb : Nat) (s : RSt) (h : RdrB W w rb s) (hk : Kp W w) (hrb : W.heap.size ≤ rb) : Calls Try.prog 45 #[.pointer (some ⟨rb, 0, none⟩)] w fun e w' => e = .returned (.string (txtR s).1) ∧ RdrB W w' rb (txtR s).2 ∧ w.grownBy w' (some rb) := by
  have HN := rcnt_any W w rb s h hk
  have hrg := cntR_range s
  clear h
  unfold txtR
  generalize cntR s = r at HN hrg ⊢
  obtain ⟨n, bs, bad⟩ := r
  simp only at *
  obtain ⟨k, rfl⟩ : ∃ k : Nat, n = k := ⟨n.toNat, by omega⟩
  have hkl : k ≤ bs.length := by omega
  rw [Int.toNat_natCast]
  clear hrg
  go_enter Try.func45, Try.ntmps45
  go_wp2_with (go_at_call 44; go_must (refine HN.mono ?_); rintro e w9 ⟨rfl, hr9, hg9⟩; obtain ⟨A, c, hb, hrd⟩ := hr9; have hrl := hrd.len; have s1 := sl_h A bs.length c k (Nat.le_trans hkl hrl.2.1); have s2 := sl_l A bs.length c k hkl; have s3 := ((hrd.take hkl).kp (Below.one hk hg9 hrb hk.le)).str; have HB := hid hb; have HRD := hid hrd; have HG := hid hg9; have c0 := blk_cell (o := 0) (v := Value.slice A bs.length c) hb rfl; have c1 := blk_cell (o := 1) (v := Value.bool bad) hb rfl; have f0 := blk_free (o := 0) hb; have hlt := blk_lt hb; clear hb hrd hg9 hrl)
  go_ret
  refine ⟨rfl, ⟨cutA A c k, c - k, ?_, ?_⟩, HG.out.trans (grown_setCell _)⟩
  · rw [List.length_drop]; exact blk_set HB.out _
  · rw [List.length_drop]; exact HRD.out.drop hkl
end Go.Proofs.Ytgonekmmbeedeaa
