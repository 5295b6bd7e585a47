/-
  Package panics: event. Condition: what is told, and the numbers, stay small.
-/
import Derived.Test.YtiicdknmoakocaaPanU
import Derived.Test.YtiicdknmoakocaaMay
namespace Go.Proofs.Ytiicdknmoakocaa
open Go.RowKit
set_option linter.unusedVariables false
set_option linter.unusedSimpArgs false

def evV (e : EventM) (lv : Value) : Value := .agg #[.int .i64 e.kind, .int .i64 e.n, .int .i64 e.v.k, .int .i64 e.v.n, .string e.v.s, lv]
/-- The numbers are small. -/
structure Bd (S : PlM) : Prop where
  fl : S.fr.length ≤ 30
  tl : S.told.length ≤ 700000000
  n0 : 0 ≤ S.next
  n1 : S.next ≤ 700000000
  s0 : 0 ≤ S.ser
  s1 : S.ser ≤ 700000000
  pl : S.pn.length ≤ 700000000
theorem bits255 (n : Int) : bits .and .i64 n 255 = bits8 n := by
  have h : (BitVec.ofInt 64 n &&& BitVec.ofInt 64 255).toNat = (BitVec.ofInt 64 n).toNat % 256 := by
    rw [BitVec.toNat_and]
    exact Nat.and_two_pow_sub_one_eq_mod _ 8
  have h2 : ((BitVec.ofInt 64 n).toNat : Int) = n % 18446744073709551616 := by
    rw [BitVec.toNat_ofInt]
    have : (0 : Int) ≤ n % 18446744073709551616 := Int.emod_nonneg _ (by decide)
    omega
  have h3 : bits .and .i64 n 255 = IntKind.i64.wrap ((BitVec.ofInt 64 n &&& BitVec.ofInt 64 255).toNat : Int) := rfl
  rw [h3, h, IntWalk.i64_in _ (by omega)]
  unfold bits8
  omega
theorem fr_cons {S : PlM} (h : Runs S) : ∃ f r, S.fr = f :: r := by
  cases hp : S.fr with
  | nil => exact absurd hp h.ne
  | cons f r => exact ⟨f, r, rfl⟩
theorem rowTypeNe {w : World} {base g : Nat} {v : Value} {D : List Int} {cs : Array Value} (h : OwnI w base v D) (hg : v.ownBlock = some g) (hb : w.heap[g]? = some (.cells cs 44 (0, 0))) : False := by
  rcases h.2 with ⟨rfl, _⟩ | ⟨g', cap, cur, rfl, _, h2, _⟩
  · cases hg
  · injection hg with hg
    subst hg
    rw [hb] at h2
    injection h2 with h2
    injection h2 with _ h2 _
    exact absurd h2 (by decide)
def EvPost (w : World) (base pb : Nat) (R : PlM) (e' : Ending) (w' : World) : Prop := e' = .returned (.int .i64 0) ∧ Player w' base pb R ∧ Below base w w'
set_option maxRecDepth 20000 in
set_option maxHeartbeats 1000000 in
theorem event_6 (w : World) (base pb : Nat) (S : PlM) (e : EventM) (lv : Value) (h : Player w base pb S) (hl : ∃ A n c, lv = .slice A n c) (hk : e.kind = 6) (hb : Bd S) : Calls Try.prog 33 #[.pointer (some ⟨pb, 0, none⟩), evV e lv] w (EvPost w base pb (eventM S e)) := by
  obtain ⟨A, n, c, rfl⟩ := hl
  unfold evV
  have H := hid h; have HB := hid hb
  have HE := hid (show eventM S e = S.over 3 (bits8 e.n) by unfold eventM; rw [if_neg (by omega), if_neg (by omega), if_neg (by omega), if_neg (by omega), if_neg (by omega)])
  have hbits := hid (bits255 e.n)
  have t1 : (e.kind == 1) = false := by simp [hk]
  have t2 : (e.kind == 2) = false := by simp [hk]
  have t3 : (e.kind == 3) = false := by simp [hk]
  have t4 : (e.kind == 4) = false := by simp [hk]
  have t5 : (e.kind == 5) = false := by simp [hk]
  have t6 : (e.kind == 6) = true := by simp [hk]
  have hbk := hid (show -1000 ≤ bits8 e.n ∧ bits8 e.n ≤ 1000000000000 by unfold bits8; omega)
  clear h hb hk
  go_enter Try.func33, Try.ntmps33
  have hbb := hbits.out
  go_wp2_with fail
  have hk1 := hid ((Kp.refl w).alloc (.cells #[.int .i64 e.kind, .int .i64 e.n, .int .i64 e.v.k, .int .i64 e.v.n, .string e.v.s, .slice A n c] 27))
  have hc := over_any _ base pb S 3 (bits8 e.n) (H.out.kp hk1.out) (ok_small (by omega) (by omega)) (ok_small hbk.out.1 hbk.out.2) (by have := HB.out.tl; omega)
  refine hc.mono ?_; clear hc hbb
  rintro e' w2 ⟨rfl, hp2, hb2⟩
  have HP2 := hid hp2; have HB2 := hid (Below.trans (Below.mono hk1.out (Nat.le_trans H.out.ge.1 (Nat.le_of_lt H.out.ge.2))) hb2)
  clear hp2 hb2
  go_wp2
  go_ret
  exact ⟨rfl, by rw [HE.out]; exact HP2.out, HB2.out⟩
set_option maxRecDepth 20000 in
set_option maxHeartbeats 1000000 in
theorem event_5 (w : World) (base pb : Nat) (S : PlM) (e : EventM) (lv : Value) (h : Player w base pb S) (hl : ∃ A n c, lv = .slice A n c) (hk : e.kind = 5) (hb : Bd S) (hr : Runs S) : Calls Try.prog 33 #[.pointer (some ⟨pb, 0, none⟩), evV e lv] w (EvPost w base pb (eventM S e)) := by
  obtain ⟨A, n, c, rfl⟩ := hl
  obtain ⟨f, r, hf⟩ := fr_cons hr
  unfold evV
  have hrl := frLen_le hf hb.fl
  have H := hid h; have HB := hid hb; have HF := hid hf
  have HE := hid (show eventM S e = recoverM S by unfold eventM; rw [if_neg (by omega), if_neg (by omega), if_neg (by omega), if_neg (by omega), if_pos hk])
  have t1 : (e.kind == 1) = false := by simp [hk]
  have t2 : (e.kind == 2) = false := by simp [hk]
  have t3 : (e.kind == 3) = false := by simp [hk]
  have t4 : (e.kind == 4) = false := by simp [hk]
  have t5 : (e.kind == 5) = true := by simp [hk]
  clear h hb hk hf hr
  go_enter Try.func33, Try.ntmps33
  go_wp2_with fail
  have hk1 := hid ((Kp.refl w).alloc (.cells #[.int .i64 e.kind, .int .i64 e.n, .int .i64 e.v.k, .int .i64 e.v.n, .string e.v.s, .slice A n c] 27))
  have hc := recover_any _ base pb S f r (H.out.kp hk1.out) HF.out (by omega) (by have := HB.out.pl; omega) (by have := HB.out.tl; omega)
  refine hc.mono ?_; clear hc
  rintro e' w2 ⟨rfl, hp2, hb2⟩
  have HP2 := hid hp2; have HB2 := hid (Below.trans (Below.mono hk1.out (Nat.le_trans H.out.ge.1 (Nat.le_of_lt H.out.ge.2))) hb2)
  clear hp2 hb2
  go_wp2
  go_ret
  exact ⟨rfl, by rw [HE.out]; exact HP2.out, HB2.out⟩
set_option maxRecDepth 20000 in
set_option maxHeartbeats 1000000 in
theorem event_2 (w : World) (base pb : Nat) (S : PlM) (e : EventM) (lv : Value) (h : Player w base pb S) (hl : ∃ A n c, lv = .slice A n c) (hk : e.kind = 2) (hb : Bd S) (hr : Runs S) : Calls Try.prog 33 #[.pointer (some ⟨pb, 0, none⟩), evV e lv] w (EvPost w base pb (eventM S e)) := by
  obtain ⟨A, n, c, rfl⟩ := hl
  obtain ⟨f, r, hf⟩ := fr_cons hr
  unfold evV
  have hrl := frLen_le hf hb.fl
  have hph : phase_ S 1 = { S with fr := { f with phase := 1 } :: r } := by unfold phase_; rw [hf]
  have HPH := hid hph
  have HEN := hid (by have := hr.returns; rw [hph] at this; exact this)
  have HSM := hid (show Sm { S with fr := { f with phase := 1 } :: r } from ⟨by show r.length + 1 ≤ 30; omega, by show S.told.length + 2 * (r.length + 1) ≤ _; have := hb.tl; omega, hb.n0, by have := hb.n1; show S.next ≤ _; omega, by have := hb.pl; show S.pn.length ≤ _; omega⟩)
  have H := hid h; have HB := hid hb; have HF := hid hf
  have HE := hid (show eventM S e = settleM (phase_ S 1) by unfold eventM; rw [if_neg (by omega), if_pos hk])
  have t1 : (e.kind == 1) = false := by simp [hk]
  have t2 : (e.kind == 2) = true := by simp [hk]
  obtain ⟨g, cg, Ag, cd, c0, hg1, hg2, _, _, _, p3, _, pf, _, hset, _⟩ := (h.kp ((Kp.refl w).alloc (.cells #[.int .i64 e.kind, .int .i64 e.n, .int .i64 e.v.k, .int .i64 e.v.n, .string e.v.s, .slice A n c] 27))).top hf
  have HSET := hid (hset 1 (ok_small (by omega) (by omega)))
  have P3 := hid p3; have PF := hid pf
  clear h hb hk hf hr hph hset p3 pf
  have hk1 := hid ((Kp.refl w).alloc (.cells #[.int .i64 e.kind, .int .i64 e.n, .int .i64 e.v.k, .int .i64 e.v.n, .string e.v.s, .slice A n c] 27))
  go_enter Try.func33, Try.ntmps33
  go_wp2_with fail
  generalize (w.alloc (.cells #[.int .i64 e.kind, .int .i64 e.n, .int .i64 e.v.k, .int .i64 e.v.n, .string e.v.s, .slice A n c] 27)) = W1 at c0 HSET P3 PF hk1 hg2 ⊢
  have hc := top_at W1 pb g r.length cg c0 (by omega)
  refine hc.mono ?_; clear hc
  rintro e' w1 ⟨rfl, n1, rfl⟩
  have p3 := P3.out; have pf := PF.out (r.length * 5 + 3)
  go_wp2_with fail
  have HPW := hid (show Player ((W1.drewN n1).setCell ⟨g, r.length * 5 + 3, none⟩ (.int .i64 1)) base pb { S with fr := { f with phase := 1 } :: r } from HSET.out.drewN n1)
  have hc := settle_any _ base pb _ HPW.out HEN.out HSM.out
  refine hc.mono ?_; clear hc
  rintro e' w2 ⟨rfl, hp2, hb2⟩
  have HP2 := hid hp2
  have HB2 := hid (Below.trans ((below_drewN (Below.mono hk1.out (Nat.le_trans H.out.ge.1 (Nat.le_of_lt H.out.ge.2))) n1).setCell (p := ⟨g, r.length * 5 + 3, none⟩) hg1 (.int .i64 1)) hb2)
  clear hp2 hb2 p3 pf
  go_wp2
  go_ret
  exact ⟨rfl, by rw [HE.out, HPH.out]; exact HP2.out, HB2.out⟩
set_option maxRecDepth 20000 in
set_option maxHeartbeats 1000000 in
theorem event_1 (w : World) (base pb : Nat) (S : PlM) (e : EventM) (lv : Value) (h : Player w base pb S) (hl : ∃ A n c, lv = .slice A n c) (hk : e.kind = 1) (hb : Bd S) : Calls Try.prog 33 #[.pointer (some ⟨pb, 0, none⟩), evV e lv] w (EvPost w base pb (eventM S e)) := by
  obtain ⟨A, n, c, rfl⟩ := hl
  unfold evV
  have H := hid h; have HB := hid hb
  have hem : eventM S e = if S.fr.length = 30 then S.over 6 0 else (S.grow 0 (-1)).tell ⟨1, S.next, 0, zV⟩ := by unfold eventM; rw [if_pos hk]
  have HE := hid hem
  have t1 : (e.kind == 1) = true := by simp [hk]
  have hk1 := hid ((Kp.refl w).alloc (.cells #[.int .i64 e.kind, .int .i64 e.n, .int .i64 e.v.k, .int .i64 e.v.n, .string e.v.s, .slice A n c] 27))
  have HKB := hid (Below.mono hk1.out (Nat.le_trans H.out.ge.1 (Nat.le_of_lt H.out.ge.2)))
  clear h hb hk hem
  by_cases hful : S.fr.length = 30
  · have HFL := hid hful
    clear hful
    go_enter Try.func33, Try.ntmps33
    go_wp2_with fail
    have hc := begin_full _ base pb S 0 (-1) (H.out.kp hk1.out) (by have := HB.out.tl; omega) HFL.out
    refine hc.mono ?_; clear hc
    rintro e' w2 ⟨rfl, hp2, hb2⟩
    have HP2 := hid hp2; have HB2 := hid (Below.trans HKB.out hb2)
    clear hp2 hb2
    go_wp2
    go_ret
    exact ⟨rfl, by rw [HE.out, if_pos HFL.out]; exact HP2.out, HB2.out⟩
  · have HFL := hid hful
    have hlt : S.fr.length < 30 := by have := HB.out.fl; omega
    clear hful
    go_enter Try.func33, Try.ntmps33
    go_wp2_with fail
    obtain ⟨fv, pv, tv, hp⟩ := H.out.kp hk1.out
    obtain ⟨L, hx⟩ := hp.fr
    have hc := begin_any _ base pb S 0 (-1) hp hx hlt ok0 (ok_small (by omega) (by omega)) HB.out.n0 (by have := HB.out.n1; omega)
    refine hc.mono ?_; clear hc
    rintro e' w2 ⟨rfl, ⟨fv2, hp2, hx2⟩, hb2⟩
    have HB2 := hid (Below.trans HKB.out hb2)
    have HP2 := hid (show Player w2 base pb (S.grow 0 (-1)) from ⟨_, _, _, hp2⟩)
    obtain ⟨g2, c2, A2, cd2, c0, hg1, hg2, p0, _⟩ := HP2.out.top (f := ⟨S.next, 0, -1, 0, []⟩) (r := S.fr) rfl
    have P0 := hid p0
    clear hp hx hp2 hx2 hb2 p0
    go_wp2_with fail
    have hc := top_at w2 pb g2 S.fr.length c2 c0 (by omega)
    refine hc.mono ?_; clear hc
    rintro e' w3 ⟨rfl, n3, rfl⟩
    have p0 := P0.out
    go_wp2_with fail
    have hc := tell_any (w2.drewN n3) base pb (S.grow 0 (-1)) ⟨1, S.next, 0, zV⟩ none 0 (HP2.out.drewN n3) (okT_nums (ok_small (by omega) (by omega)) (ok_small (by have := HB.out.n0; omega) (by have := HB.out.n1; omega)) ok0) (show S.told.length ≤ 1000000000 by have := HB.out.tl; omega)
    refine hc.mono ?_; clear hc
    rintro e' w4 ⟨rfl, hp4, hb4⟩
    have HP4 := hid hp4; have HB4 := hid (Below.trans (below_drewN HB2.out n3) hb4)
    clear hp4 hb4 p0 c0
    go_wp2
    go_ret
    exact ⟨rfl, by rw [HE.out, if_neg HFL.out]; exact HP4.out, HB4.out⟩
/-- One deferred call more, in the player. -/
theorem Pl.deferred {w u : World} {base pb g o : Nat} {fv pv tv v : Value} {p : PlM} {F2 : List FrameM} {cs : Array Value} (h : Pl w base pb fv pv tv p) (ht : Touch 3 w u) (hg : u.heap[g]? = some (.cells cs 44 (0, 0))) (h2 : FrRow (u.setCell ⟨g, o, none⟩ v) base fv F2) : Pl (u.setCell ⟨g, o, none⟩ v) base pb fv pv tv { p with fr := F2 } := by
  have hs := rowTouch (o := o) hg v
  refine ⟨?_, h.ge, h2, (h.pn.touch ht (by decide)).touch hs (by decide), (h.td.touch ht (by decide)).touch hs (by decide), h.ok⟩
  have hb := h.blkT ht (by decide)
  exact hs.2 pb _ hb (fun cs fr e => by injection e with _ e _; exact absurd e (by decide))
set_option maxRecDepth 20000 in
set_option maxHeartbeats 1000000 in
theorem event_3 (w : World) (base pb : Nat) (S : PlM) (e : EventM) (lv : Value) (h : Player w base pb S) (hl : ∃ A n c, lv = .slice A n c) (hk : e.kind = 3) (hn : okI e.n) (hb : Bd S) (hr : Runs S) (hd : ∀ f ∈ S.fr, f.defers.length ≤ 900000) : Calls Try.prog 33 #[.pointer (some ⟨pb, 0, none⟩), evV e lv] w (EvPost w base pb (eventM S e)) := by
  obtain ⟨A, n, c, rfl⟩ := hl
  obtain ⟨f, r, hf⟩ := fr_cons hr
  unfold evV
  have hrl := frLen_le hf hb.fl
  have H := hid h; have HB := hid hb; have HF := hid hf; have HN := hid hn
  have hfd := hd f (by rw [hf]; simp)
  have hem : eventM S e = { S with fr := { f with defers := f.defers ++ [e.n] } :: r } := by
    unfold eventM
    rw [if_neg (by omega), if_neg (by omega), if_pos hk, hf]
  have HE := hid hem
  have t1 : (e.kind == 1) = false := by simp [hk]
  have t2 : (e.kind == 2) = false := by simp [hk]
  have t3 : (e.kind == 3) = true := by simp [hk]
  have hk1 := hid ((Kp.refl w).alloc (.cells #[.int .i64 e.kind, .int .i64 e.n, .int .i64 e.v.k, .int .i64 e.v.n, .string e.v.s, .slice A n c] 27))
  have HKB := hid (Below.mono hk1.out (Nat.le_trans H.out.ge.1 (Nat.le_of_lt H.out.ge.2)))
  have HBX := hid (show (w.alloc (.cells #[.int .i64 e.kind, .int .i64 e.n, .int .i64 e.v.k, .int .i64 e.v.n, .string e.v.s, .slice A n c] 27)).heap[w.heap.size]? = some (.cells #[.int .i64 e.kind, .int .i64 e.n, .int .i64 e.v.k, .int .i64 e.v.n, .string e.v.s, .slice A n c] 27 (0, 0)) from blk_new _ _)
  clear h hb hk hem hf hn hd
  go_enter Try.func33, Try.ntmps33
  go_wp2_with fail
  generalize (w.alloc (.cells #[.int .i64 e.kind, .int .i64 e.n, .int .i64 e.v.k, .int .i64 e.v.n, .string e.v.s, .slice A n c] 27)) = W1 at hk1 HKB HBX ⊢
  obtain ⟨fv, pv, tv, hp⟩ := H.out.kp hk1.out
  have hx := hp.fr
  rw [HF.out] at hx
  obtain ⟨g, cg, d, rfl, hcg, hg1, hg2, _, _, _, _, p4, pf, po, pok, csg, hbg⟩ := hx.top
  obtain ⟨Ad, cd, rfl⟩ := own_form po
  have c0 := hp.c0
  have HP := hid hp; have HX := hid hx; have P4 := hid p4; have PO := hid po; have POK := hid pok; have HBG := hid hbg; have PF := hid pf
  have hbx : w.heap.size < W1.heap.size := blk_lt HBX.out
  have hge : base ≤ W1.heap.size := Nat.le_trans hg1 (Nat.le_of_lt hg2)
  have BD := hid (show ∀ k, (Value.slice Ad f.defers.length cd).ownBlock = some k → k < W1.heap.size from fun k hk => (World.ownsRow.lt po k hk).2)
  have B1 := hid (show f.defers.length + 1 ≤ maxLen by unfold maxLen; omega)
  have B2 := hid (show (f.defers.length + 1) * 8 ≤ 140737488355328 by omega)
  have HDS := hid (show (∀ x ∈ f.defers ++ [e.n], okI x) ∧ (f.defers ++ [e.n]).length ≤ 1000000 from ⟨fun x hx => by
    rcases List.mem_append.1 hx with h1 | h1
    · exact pok.2.2.2.2.1 x h1
    · rw [List.mem_singleton] at h1; subst h1; exact HN.out, by rw [List.length_append, List.length_singleton]; omega⟩)
  clear hp hx p4 pf po pok hbg hfd
  have hc := top_at W1 pb g r.length cg c0 (by omega)
  refine hc.mono ?_; clear hc c0
  rintro e' w1 ⟨rfl, n1, rfl⟩
  go_wp2
  refine wp_region_phase [8, 11] [(0, 1), (0, 0), (0, 0), (0, 0), (0, 0), (0, 0), (0, 0), (0, 0), (0, 0), (0, 1), (0, 1), (0, 0)] (KpF W1.heap.size) [[], [], [1], [2], [3], [], [5], [6], [4, 7], [0], [9], [8, 10]]
    (fun (p : Nat) (x : Nat → Value) (u : World) => match p with | 0 => Kp W1 u | 1 => (∃ cs, u.heap[g]? = some (.cells cs 44 (0, 0))) ∧ W1.grownBy u (Value.slice Ad f.defers.length cd).ownBlock ∧ Moved W1 (.slice Ad f.defers.length cd) (x 8) ∧ OwnI u base (x 8) (f.defers ++ [e.n]) ∧ Below base W1 u | _ => Player u base pb { S with fr := { f with defers := f.defers ++ [e.n] } :: r } ∧ Below base W1 u)
    [fun (y : Value) (u : World) => y = (.pointer (some ⟨g, r.length * 5, none⟩) : Value),
     fun (y : Value) (u : World) => y = (.pointer (some ⟨g, r.length * 5, none⟩) : Value),
     fun (y : Value) (u : World) => y = (.pointer (some ⟨g, r.length * 5, none⟩) : Value),
     fun (y : Value) (u : World) => y = (.pointer (some ⟨g, r.length * 5 + 4, none⟩) : Value),
     fun (y : Value) (u : World) => y = (.slice Ad f.defers.length cd : Value),
     fun (y : Value) (u : World) => y = (.pointer (some ⟨w.heap.size, 1, none⟩) : Value),
     fun (y : Value) (u : World) => y = (.int .i64 e.n : Value),
     fun (y : Value) (u : World) => LitAt W1.heap.size 3 #[.int .i64 e.n] y u,
     fun (y : Value) (u : World) => True,
     fun (y : Value) (u : World) => y = (.pointer (some ⟨g, r.length * 5, none⟩) : Value),
     fun (y : Value) (u : World) => y = (.pointer (some ⟨g, r.length * 5 + 4, none⟩) : Value),
     fun (y : Value) (u : World) => True]
    (by kernel_rfl) (by kernel_rfl) (by kernel_rfl) (by kernel_rfl) (by kernel_rfl) (by kernel_rfl) (fun _ _ hk => KpF.of_kp hk) (((Kp.refl W1).drewN n1).drew) ?hKb ?hXb ⟨fun _ _ _ _ h => h, fun _ _ _ _ h => h, fun _ _ _ _ h => h, fun _ _ _ _ h => h, fun _ _ _ _ h => h, fun _ _ _ _ h => h, fun _ _ _ _ h => h, fun _ _ _ hk h => h.keep hk, fun _ _ _ _ _ => trivial, fun _ _ _ _ h => h, fun _ _ _ _ h => h, fun _ _ _ _ _ => trivial, trivial⟩ ⟨?sb0, ?sb1, ?sb2, ?sb3, ?sb4, ?sb5, ?sb6, ?sb7, ?sb8, ?sb9, ?sb10, ?sb11, trivial⟩ ?hEb
  case hKb =>
    intro p x w w' hk h
    rcases p with _ | _ | p
    · exact h.trans hk
    · exact ⟨by obtain ⟨cs, h1⟩ := h.1; exact ⟨cs, (hk.block _ (blk_lt h1)).trans h1⟩, h.2.1.trans (grown_kp hk _), h.2.2.1, ownsRow_keep h.2.2.2.1 hk, Below.trans h.2.2.2.2 (Below.mono hk (Nat.le_trans hge h.2.2.2.2.size))⟩
    · exact ⟨h.1.kp hk, Below.trans h.2 (Below.mono hk (Nat.le_trans hge h.2.size))⟩
  case hXb =>
    intro p x i v w hi h
    have e0 : upd x i v 8 = x 8 := if_neg (fun hh => hi (by rw [← hh]; decide))
    have e1 : upd x i v 11 = x 11 := if_neg (fun hh => hi (by rw [← hh]; decide))
    rcases p with _ | _ | p
    · first | exact h | (simp only [e0, e1]; exact h)
    · first | exact h | (simp only [e0, e1]; exact h)
    · first | exact h | (simp only [e0, e1]; exact h)
  case sb0 =>
    refine OpStepQ.off 0 1 (by kernel_rfl) (by kernel_rfl) ?_
    intro x u p hp hg hd K hK
    clear hd
    refine ⟨?_⟩
    simp only [putsFrom, Act.put, List.setIfInBounds_toArray, List.set_cons_zero, List.set_cons_succ, Nat.reduceAdd] at hK ⊢
    go_simp
    exact hK.out _ _ (Kp.refl _) rfl
  case sb1 =>
    refine OpStepQ.off 0 0 (by kernel_rfl) (by kernel_rfl) ?_
    intro x u p hp hg hd K hK
    obtain rfl : p = 0 := by omega
    change Kp W1 u at hg
    clear hd
    refine ⟨?_⟩
    simp only [putsFrom, Act.put, List.setIfInBounds_toArray, List.set_cons_zero, List.set_cons_succ, Nat.reduceAdd] at hK ⊢
    go_simp
    exact hK.out _ _ (Kp.refl _) rfl
  case sb2 =>
    refine OpStepQ.off 0 0 (by kernel_rfl) (by kernel_rfl) ?_
    intro x u p hp hg hd K hK
    obtain rfl : p = 0 := by omega
    change Kp W1 u at hg
    have d1 : (x 1) = .pointer (some ⟨g, r.length * 5, none⟩) := And.left hd
    clear hd
    refine ⟨?_⟩
    simp only [putsFrom, Act.put, List.setIfInBounds_toArray, List.set_cons_zero, List.set_cons_succ, Nat.reduceAdd, d1] at hK ⊢
    go_simp
    exact hK.out _ _ (Kp.refl _) rfl
  case sb3 =>
    refine OpStepQ.off 0 0 (by kernel_rfl) (by kernel_rfl) ?_
    intro x u p hp hg hd K hK
    obtain rfl : p = 0 := by omega
    change Kp W1 u at hg
    have d2 : (x 2) = .pointer (some ⟨g, r.length * 5, none⟩) := And.left hd
    clear hd
    refine ⟨?_⟩
    simp only [putsFrom, Act.put, List.setIfInBounds_toArray, List.set_cons_zero, List.set_cons_succ, Nat.reduceAdd, d2] at hK ⊢
    go_simp
    exact hK.out _ _ (Kp.refl _) rfl
  case sb4 =>
    refine OpStepQ.off 0 0 (by kernel_rfl) (by kernel_rfl) ?_
    intro x u p hp hg hd K hK
    obtain rfl : p = 0 := by omega
    change Kp W1 u at hg
    have d3 : (x 3) = .pointer (some ⟨g, r.length * 5 + 4, none⟩) := And.left hd
    clear hd
    have q9 := cell_kp hg hg2 P4.out
    refine ⟨?_⟩
    simp only [putsFrom, Act.put, List.setIfInBounds_toArray, List.set_cons_zero, List.set_cons_succ, Nat.reduceAdd, d3] at hK ⊢
    go_simp
    exact hK.out _ _ (Kp.refl _) rfl
  case sb5 =>
    refine OpStepQ.off 0 0 (by kernel_rfl) (by kernel_rfl) ?_
    intro x u p hp hg hd K hK
    obtain rfl : p = 0 := by omega
    change Kp W1 u at hg
    clear hd
    refine ⟨?_⟩
    simp only [putsFrom, Act.put, List.setIfInBounds_toArray, List.set_cons_zero, List.set_cons_succ, Nat.reduceAdd] at hK ⊢
    go_simp
    exact hK.out _ _ (Kp.refl _) rfl
  case sb6 =>
    refine OpStepQ.off 0 0 (by kernel_rfl) (by kernel_rfl) ?_
    intro x u p hp hg hd K hK
    obtain rfl : p = 0 := by omega
    change Kp W1 u at hg
    have d5 : (x 5) = .pointer (some ⟨w.heap.size, 1, none⟩) := And.left hd
    clear hd
    have q9 := blk_cell (o := 1) (v := .int .i64 e.n) ((hg.block _ hbx).trans HBX.out) rfl
    refine ⟨?_⟩
    simp only [putsFrom, Act.put, List.setIfInBounds_toArray, List.set_cons_zero, List.set_cons_succ, Nat.reduceAdd, d5] at hK ⊢
    go_simp
    exact hK.out _ _ (Kp.refl _) rfl
  case sb7 =>
    refine OpStepQ.off 0 0 (by kernel_rfl) (by kernel_rfl) ?_
    intro x u p hp hg hd K hK
    obtain rfl : p = 0 := by omega
    change Kp W1 u at hg
    have d6 : (x 6) = .int .i64 e.n := And.left hd
    clear hd
    refine ⟨?_⟩
    simp only [putsFrom, Act.put, List.setIfInBounds_toArray, List.set_cons_zero, List.set_cons_succ, Nat.reduceAdd, d6] at hK ⊢
    go_simp
    exact hK.out _ _ ((Kp.refl _).alloc _) ⟨_, rfl, hg.le, blk_new _ _⟩
  case sb8 =>
    refine OpStepQ.on 0 (by kernel_rfl) (by kernel_rfl) ?_
    intro x u hg hd K hK
    change Kp W1 u at hg
    have d4 : (x 4) = .slice Ad f.defers.length cd := And.left hd
    have d7 : LitAt W1.heap.size 3 #[.int .i64 e.n] (x 7) u := And.left (And.right hd)
    clear hd
    obtain ⟨b, e6, hb6, hlit⟩ := d7
    have hown : u.ownsRow base 3 1 (.slice Ad f.defers.length cd) f.defers.length (f.defers.map intV) := ownsRow_keep PO.out hg
    refine ⟨?_⟩
    simp only [putsFrom, Act.put, List.setIfInBounds_toArray, List.set_cons_zero, List.set_cons_succ, Nat.reduceAdd, d4, e6] at hK ⊢
    rw [if_pos (by simp [Region.wanted])]
    refine wp_appP elInt (.tmp 36) (.tmp 39) (by rfl) hown (by rfl) [.int .i64 e.n] _ 1 1 (by rfl) rfl (fun _ => ⟨_, rfl, lit_src hlit⟩) (by intro z hz; simp at hz; subst hz; rfl) B1.out B2.out (Nat.le_trans hge hg.le) ?_
    intro v' w' G1 G2 G3 G4
    have hT := Touch.of_grown hown G2
    refine hK.out v' w' (KpF.of_grown G2 BD.out) ⟨⟨csg, hT.2 g _ ((hg.block _ hg2).trans HBG.out) (fun cs fr e2 => by injection e2 with _ e2 _; exact absurd e2 (by decide))⟩, (grown_kp hg _).trans G2, ?_, ?_, Below.trans (Below.mono hg hge) G4⟩ trivial
    · rcases G3 with h3 | ⟨k, h3, h4⟩
      · exact .inl h3
      · exact .inr ⟨k, h3, Nat.le_trans hg.le h4⟩
    · unfold OwnI; rw [List.map_append, List.length_append]; exact G1
  case sb9 =>
    refine OpStepQ.off 0 1 (by kernel_rfl) (by kernel_rfl) ?_
    intro x u p hp hg hd K hK
    have d0 : (x 0) = .pointer (some ⟨g, r.length * 5, none⟩) := And.left hd
    clear hd
    refine ⟨?_⟩
    simp only [putsFrom, Act.put, List.setIfInBounds_toArray, List.set_cons_zero, List.set_cons_succ, Nat.reduceAdd, d0] at hK ⊢
    go_simp
    exact hK.out _ _ (Kp.refl _) rfl
  case sb10 =>
    refine OpStepQ.off 0 1 (by kernel_rfl) (by kernel_rfl) ?_
    intro x u p hp hg hd K hK
    have d9 : (x 9) = .pointer (some ⟨g, r.length * 5, none⟩) := And.left hd
    clear hd
    refine ⟨?_⟩
    simp only [putsFrom, Act.put, List.setIfInBounds_toArray, List.set_cons_zero, List.set_cons_succ, Nat.reduceAdd, d9] at hK ⊢
    go_simp
    exact hK.out _ _ (Kp.refl _) rfl
  case sb11 =>
    refine OpStepQ.on 1 (by kernel_rfl) (by kernel_rfl) ?_
    intro x u hg hd K hK
    change (∃ cs, u.heap[g]? = some (.cells cs 44 (0, 0))) ∧ W1.grownBy u (Value.slice Ad f.defers.length cd).ownBlock ∧ Moved W1 (.slice Ad f.defers.length cd) (x 8) ∧ OwnI u base (x 8) (f.defers ++ [e.n]) ∧ Below base W1 u at hg
    have d10 : (x 10) = .pointer (some ⟨g, r.length * 5 + 4, none⟩) := And.left (And.right hd)
    clear hd
    obtain ⟨⟨cs, hcs⟩, hg1', hg2', hg3', hg4'⟩ := hg
    obtain ⟨A7, c7, e7⟩ := own_form hg3'
    rw [show (f.defers ++ [e.n]).length = f.defers.length + 1 by simp] at e7
    have q9 : u.cell? ⟨g, r.length * 5 + 4, none⟩ = some (.slice Ad f.defers.length cd) := hg1'.cell P4.out (fun e2 => by have hk2 := rowTypeNe PO.out e2.symm HBG.out; exact hk2)
    have qf := blk_free (o := r.length * 5 + 4) hcs
    have HE2 := hid (HX.out.defer P4.out hg1' hg2' hg3' HDS.out)
    have HE3 := hid (HP.out.deferred (Touch.of_grown PO.out hg1') hcs HE2.out)
    have HG4 := hid hg4'
    have e7' := hid e7
    clear hcs hg1' hg2' hg3' hg4'
    refine ⟨?_⟩
    simp only [putsFrom, Act.put, List.setIfInBounds_toArray, List.set_cons_zero, List.set_cons_succ, Nat.reduceAdd, d10, e7] at hK ⊢
    go_simp
    rw [e7'.out] at HE3
    exact hK.out undef _ (KpF.setCell hg2 _) ⟨⟨_, _, _, HE3.out⟩, HG4.out.setCell hg1 _⟩ trivial
  intro x u hg he
  have d0 : (x 0) = .pointer (some ⟨g, r.length * 5, none⟩) := And.left he
  have d1 : (x 1) = .pointer (some ⟨g, r.length * 5, none⟩) := And.left (And.right he)
  have d2 : (x 2) = .pointer (some ⟨g, r.length * 5, none⟩) := And.left (And.right (And.right he))
  have d3 : (x 3) = .pointer (some ⟨g, r.length * 5 + 4, none⟩) := And.left (And.right (And.right (And.right he)))
  have d4 : (x 4) = .slice Ad f.defers.length cd := And.left (And.right (And.right (And.right (And.right he))))
  have d5 : (x 5) = .pointer (some ⟨w.heap.size, 1, none⟩) := And.left (And.right (And.right (And.right (And.right (And.right he)))))
  have d6 : (x 6) = .int .i64 e.n := And.left (And.right (And.right (And.right (And.right (And.right (And.right he))))))
  have d7 : LitAt W1.heap.size 3 #[.int .i64 e.n] (x 7) u := And.left (And.right (And.right (And.right (And.right (And.right (And.right (And.right he)))))))
  have d9 : (x 9) = .pointer (some ⟨g, r.length * 5, none⟩) := And.left (And.right (And.right (And.right (And.right (And.right (And.right (And.right (And.right (And.right he)))))))))
  have d10 : (x 10) = .pointer (some ⟨g, r.length * 5 + 4, none⟩) := And.left (And.right (And.right (And.right (And.right (And.right (And.right (And.right (And.right (And.right (And.right he))))))))))
  clear he
  change Player u base pb { S with fr := { f with defers := f.defers ++ [e.n] } :: r } ∧ Below base W1 u at hg
  refine ⟨?_⟩
  simp only [putsFrom, Act.put, List.setIfInBounds_toArray, List.set_cons_zero, List.set_cons_succ, Nat.reduceAdd, d0, d1, d2, d3, d4, d5, d6, d9, d10]
  clear d0 d1 d2 d3 d4 d5 d6 d9 d10
  have HG := hid hg
  go_wp2
  go_ret
  exact ⟨rfl, by rw [HE.out]; exact HG.out.1, Below.trans HKB.out HG.out.2⟩
/-- The plain form of a value that a panic may have. -/
theorem plain_may {m : ValM} (h : mayM m = true) : (plainM m).l = [] ∧ plainM (plainM m) = plainM m := by
  unfold mayM at h
  simp only [Bool.or_eq_true, beq_iff_eq] at h
  rcases h with (h | h) | h
  · have e : plainM m = ⟨1, m.n, ⟨#[]⟩, []⟩ := by unfold plainM; rw [if_neg (by omega), if_pos (by omega), h]
    rw [e]; exact ⟨rfl, rfl⟩
  · have e : plainM m = ⟨3, 0, m.s, []⟩ := by unfold plainM; rw [if_neg (by omega), if_neg (by omega), if_pos (by omega), h]
    rw [e]; exact ⟨rfl, rfl⟩
  · have e : plainM m = ⟨5, 0, m.s, []⟩ := by unfold plainM; rw [if_neg (by omega), if_neg (by omega), if_pos (by omega), h]
    rw [e]; exact ⟨rfl, rfl⟩
set_option maxRecDepth 20000 in
set_option maxHeartbeats 2000000 in
theorem event_4 (w : World) (base pb : Nat) (S : PlM) (e : EventM) (lv : Value) (h : Player w base pb S) (hlv : RdInts w lv e.v.l) (hev : okI e.v.k ∧ okI e.v.n ∧ e.v.s.size ≤ 140737488351232 ∧ e.v.l.length * 8 ≤ 140737488351232) (hk : e.kind = 4) (hm : mayM e.v = true) (hb : Bd S) (hr : Runs S) : Calls Try.prog 33 #[.pointer (some ⟨pb, 0, none⟩), evV e lv] w (EvPost w base pb (eventM S e)) := by
  obtain ⟨n, A, c, rfl⟩ : ∃ n A c, lv = .slice A n c := by obtain ⟨A, c, h⟩ := hlv.form; exact ⟨_, A, c, h⟩
  obtain ⟨f, r, hf⟩ := fr_cons hr
  unfold evV
  have hrl := frLen_le hf hb.fl
  have hpl := plain_may hm
  have hph : phase_ { S with pn := ⟨S.ser, plainM e.v, false, false⟩ :: S.pn, ser := S.ser + 1 } 2 = { S with pn := ⟨S.ser, plainM e.v, false, false⟩ :: S.pn, ser := S.ser + 1, fr := { f with phase := 2 } :: r } := by unfold phase_; rw [hf]
  have HPH := hid hph
  have HEN := hid (by have := hr.panics (plainM e.v); rw [hph] at this; exact this)
  have HSM := hid (show Sm { S with pn := ⟨S.ser, plainM e.v, false, false⟩ :: S.pn, ser := S.ser + 1, fr := { f with phase := 2 } :: r } from ⟨by show r.length + 1 ≤ 30; omega, by show S.told.length + 2 * (r.length + 1) ≤ _; have := hb.tl; omega, hb.n0, by have := hb.n1; show S.next ≤ _; omega, by have := hb.pl; show S.pn.length + 1 ≤ _; omega⟩)
  have H := hid h; have HB := hid hb; have HF := hid hf; have HLV := hid hlv; have HEV := hid hev; have HPL := hid hpl
  have HMA := hid hm
  have hem : eventM S e = settleM (phase_ { S with pn := ⟨S.ser, plainM e.v, false, false⟩ :: S.pn, ser := S.ser + 1 } 2) := by
    unfold eventM
    rw [if_neg (by omega), if_neg (by omega), if_neg (by omega), if_pos hk]
  have HE := hid hem
  have t1 : (e.kind == 1) = false := by simp [hk]
  have t2 : (e.kind == 2) = false := by simp [hk]
  have t3 : (e.kind == 3) = false := by simp [hk]
  have t4 : (e.kind == 4) = true := by simp [hk]
  have hk1 := hid ((Kp.refl w).alloc (.cells #[.int .i64 e.kind, .int .i64 e.n, .int .i64 e.v.k, .int .i64 e.v.n, .string e.v.s, .slice A n c] 27))
  have HKB := hid (Below.mono hk1.out (Nat.le_trans H.out.ge.1 (Nat.le_of_lt H.out.ge.2)))
  have HBX := hid (show (w.alloc (.cells #[.int .i64 e.kind, .int .i64 e.n, .int .i64 e.v.k, .int .i64 e.v.n, .string e.v.s, .slice A n c] 27)).heap[w.heap.size]? = some (.cells #[.int .i64 e.kind, .int .i64 e.n, .int .i64 e.v.k, .int .i64 e.v.n, .string e.v.s, .slice A n c] 27 (0, 0)) from blk_new _ _)
  have hser := hid (show okI S.ser ∧ okI (S.ser + 1) from ⟨ok_small (by have := hb.s0; omega) (by have := hb.s1; omega), ok_small (by have := hb.s0; omega) (by have := hb.s1; omega)⟩)
  have hplen : S.pn.length ≤ 700000000 := hb.pl
  clear h hb hk hem hf hlv hev hpl hm hr hph
  go_enter Try.func33, Try.ntmps33
  go_wp2_with fail
  generalize (w.alloc (.cells #[.int .i64 e.kind, .int .i64 e.n, .int .i64 e.v.k, .int .i64 e.v.n, .string e.v.s, .slice A n c] 27)) = W1 at hk1 HKB HBX ⊢
  have hbx : w.heap.size < W1.heap.size := blk_lt HBX.out
  have hc := may_any _ e.v W1 ⟨_, rfl, HLV.out.kp hk1.out, HEV.out.1, HEV.out.2.1, HEV.out.2.2.1, HEV.out.2.2.2⟩
  rw [HMA.out] at hc
  refine hc.mono ?_; clear hc
  rintro e' w2 ⟨rfl, hk2⟩
  have HK2 := hid hk2
  obtain ⟨fv, pv, tv, hp⟩ := (H.out.kp hk1.out).kp hk2
  obtain ⟨Ap, cp, rfl, _⟩ := hp.pn.len
  have HP := hid hp
  have hpb := hp.lt; have hpge := hp.ge
  have hbw2 := Nat.lt_of_lt_of_le hbx hk2.le
  have hge : base ≤ w2.heap.size := Nat.le_trans hpge (Nat.le_of_lt hpb)
  have BP := hid (show ∀ k, (Value.slice Ap S.pn.length cp).ownBlock = some k → k < w2.heap.size by obtain ⟨xs, q, _⟩ := hp.pn; exact fun k hk => (q.lt k hk).2)
  have B1 := hid (show S.pn.length + 1 ≤ maxLen by unfold maxLen; omega)
  have B2 := hid (show (S.pn.length + 1) * 72 ≤ 140737488355328 by omega)
  have HQ : Hid (okI (plainM e.v).k ∧ okI (plainM e.v).n ∧ (plainM e.v).s.size ≤ 140737488351232) := hid (by
    have h1 := HEV.out
    have h2 := HMA.out
    unfold mayM at h2
    simp only [Bool.or_eq_true, beq_iff_eq] at h2
    unfold plainM
    rcases h2 with (h | h) | h
    · rw [if_neg (by omega), if_pos (by omega)]; exact ⟨h1.1, h1.2.1, by show (⟨#[]⟩ : ByteArray).size ≤ _; decide⟩
    · rw [if_neg (by omega), if_neg (by omega), if_pos (by omega)]; exact ⟨h1.1, ok0, h1.2.2.1⟩
    · rw [if_neg (by omega), if_neg (by omega), if_pos (by omega)]; exact ⟨h1.1, ok0, h1.2.2.1⟩)
  obtain ⟨pm, hpm⟩ : ∃ pm, plainM e.v = pm := ⟨_, rfl⟩
  rw [hpm] at HPH HEN HSM HPL HE HQ
  have HPM := hid hpm
  clear hp hk2 hplen hpm
  go_wp2
  refine wp_region_phase [16, 20] [(0, 1), (0, 0), (0, 0), (0, 0), (0, 0), (0, 0), (0, 0), (0, 0), (0, 0), (0, 0), (0, 0), (0, 0), (0, 0), (0, 0), (0, 0), (0, 0), (0, 0), (0, 1), (0, 1), (0, 1), (0, 0)] (KpF w2.heap.size) [[], [], [1], [2], [3], [4], [], [6], [7], [8], [9], [], [11], [12], [10, 13], [14], [5, 15], [0], [17], [18], [16, 19]]
    (fun (p : Nat) (x : Nat → Value) (u : World) => match p with | 0 => Kp w2 u | 1 => Touch 46 w2 u ∧ PnRow u base (x 16) (⟨S.ser, pm, false, false⟩ :: S.pn) ∧ Below base w2 u | _ => (∃ pv2, Pl u base pb fv pv2 tv { S with pn := ⟨S.ser, pm, false, false⟩ :: S.pn }) ∧ Below base w2 u)
    [fun (y : Value) (u : World) => y = (.pointer (some ⟨pb, 0, none⟩) : Value),
     fun (y : Value) (u : World) => y = (.pointer (some ⟨pb, 0, none⟩) : Value),
     fun (y : Value) (u : World) => y = (.pointer (some ⟨pb, 0, none⟩) : Value),
     fun (y : Value) (u : World) => y = (.pointer (some ⟨pb, 0, none⟩) : Value),
     fun (y : Value) (u : World) => y = (.pointer (some ⟨pb, 1, none⟩) : Value),
     fun (y : Value) (u : World) => y = (.slice Ap S.pn.length cp : Value),
     fun (y : Value) (u : World) => y = (.pointer (some ⟨pb, 0, none⟩) : Value),
     fun (y : Value) (u : World) => y = (.pointer (some ⟨pb, 0, none⟩) : Value),
     fun (y : Value) (u : World) => y = (.pointer (some ⟨pb, 0, none⟩) : Value),
     fun (y : Value) (u : World) => y = (.pointer (some ⟨pb, 3, none⟩) : Value),
     fun (y : Value) (u : World) => y = (.int .i64 S.ser : Value),
     fun (y : Value) (u : World) => y = (.pointer (some ⟨w.heap.size, 2, none⟩) : Value),
     fun (y : Value) (u : World) => y = (.agg #[.int .i64 e.v.k, .int .i64 e.v.n, .string e.v.s, .slice A n c] : Value),
     fun (y : Value) (u : World) => ∃ A' c', y = .agg #[.int .i64 pm.k, .int .i64 pm.n, .string pm.s, .slice A' 0 c'],
     fun (y : Value) (u : World) => ∃ A' c', y = .agg #[.int .i64 S.ser, .int .i64 pm.k, .int .i64 pm.n, .string pm.s, .slice A' 0 c', .bool false, .bool false],
     fun (y : Value) (u : World) => ∃ A' c', LitAt w2.heap.size 46 #[.int .i64 S.ser, .int .i64 pm.k, .int .i64 pm.n, .string pm.s, .slice A' 0 c', .bool false, .bool false] y u,
     fun (y : Value) (u : World) => True,
     fun (y : Value) (u : World) => y = (.pointer (some ⟨pb, 0, none⟩) : Value),
     fun (y : Value) (u : World) => y = (.pointer (some ⟨pb, 0, none⟩) : Value),
     fun (y : Value) (u : World) => y = (.pointer (some ⟨pb, 1, none⟩) : Value),
     fun (y : Value) (u : World) => True]
    (by kernel_rfl) (by kernel_rfl) (by kernel_rfl) (by kernel_rfl) (by kernel_rfl) (by kernel_rfl) (fun _ _ hk => KpF.of_kp hk) ((Kp.refl _).drew) ?hKc ?hXc ⟨fun _ _ _ _ h => h, fun _ _ _ _ h => h, fun _ _ _ _ h => h, fun _ _ _ _ h => h, fun _ _ _ _ h => h, fun _ _ _ _ h => h, fun _ _ _ _ h => h, fun _ _ _ _ h => h, fun _ _ _ _ h => h, fun _ _ _ _ h => h, fun _ _ _ _ h => h, fun _ _ _ _ h => h, fun _ _ _ _ h => h, fun _ _ _ _ h => h, fun _ _ _ _ h => h, fun _ _ _ hk ⟨A', c', h⟩ => ⟨A', c', h.keep hk⟩, fun _ _ _ _ _ => trivial, fun _ _ _ _ h => h, fun _ _ _ _ h => h, fun _ _ _ _ h => h, fun _ _ _ _ _ => trivial, trivial⟩ ⟨?sc0, ?sc1, ?sc2, ?sc3, ?sc4, ?sc5, ?sc6, ?sc7, ?sc8, ?sc9, ?sc10, ?sc11, ?sc12, ?sc13, ?sc14, ?sc15, ?sc16, ?sc17, ?sc18, ?sc19, ?sc20, trivial⟩ ?hEc
  case hKc =>
    intro p x w w' hk h
    rcases p with _ | _ | p
    · exact h.trans hk
    · exact ⟨h.1.trans (Touch.of_kp hk), h.2.1.kp hk, Below.trans h.2.2 (Below.mono hk (Nat.le_trans hge h.2.2.size))⟩
    · exact ⟨by obtain ⟨pv2, h1⟩ := h.1; exact ⟨pv2, h1.kp hk⟩, Below.trans h.2 (Below.mono hk (Nat.le_trans hge h.2.size))⟩
  case hXc =>
    intro p x i v w hi h
    have e0 : upd x i v 16 = x 16 := if_neg (fun hh => hi (by rw [← hh]; decide))
    have e1 : upd x i v 20 = x 20 := if_neg (fun hh => hi (by rw [← hh]; decide))
    rcases p with _ | _ | p
    · first | exact h | (simp only [e0, e1]; exact h)
    · first | exact h | (simp only [e0, e1]; exact h)
    · first | exact h | (simp only [e0, e1]; exact h)
  case sc0 =>
    refine OpStepQ.off 0 1 (by kernel_rfl) (by kernel_rfl) ?_
    intro x u p hp hg hd K hK
    clear hd
    refine ⟨?_⟩
    simp only [putsFrom, Act.put, List.setIfInBounds_toArray, List.set_cons_zero, List.set_cons_succ, Nat.reduceAdd] at hK ⊢
    go_simp
    exact hK.out _ _ (Kp.refl _) rfl
  case sc1 =>
    refine OpStepQ.off 0 0 (by kernel_rfl) (by kernel_rfl) ?_
    intro x u p hp hg hd K hK
    obtain rfl : p = 0 := by omega
    change Kp w2 u at hg
    clear hd
    refine ⟨?_⟩
    simp only [putsFrom, Act.put, List.setIfInBounds_toArray, List.set_cons_zero, List.set_cons_succ, Nat.reduceAdd] at hK ⊢
    go_simp
    exact hK.out _ _ (Kp.refl _) rfl
  case sc2 =>
    refine OpStepQ.off 0 0 (by kernel_rfl) (by kernel_rfl) ?_
    intro x u p hp hg hd K hK
    obtain rfl : p = 0 := by omega
    change Kp w2 u at hg
    have d1 : (x 1) = .pointer (some ⟨pb, 0, none⟩) := And.left hd
    clear hd
    refine ⟨?_⟩
    simp only [putsFrom, Act.put, List.setIfInBounds_toArray, List.set_cons_zero, List.set_cons_succ, Nat.reduceAdd, d1] at hK ⊢
    go_simp
    exact hK.out _ _ (Kp.refl _) rfl
  case sc3 =>
    refine OpStepQ.off 0 0 (by kernel_rfl) (by kernel_rfl) ?_
    intro x u p hp hg hd K hK
    obtain rfl : p = 0 := by omega
    change Kp w2 u at hg
    have d2 : (x 2) = .pointer (some ⟨pb, 0, none⟩) := And.left hd
    clear hd
    refine ⟨?_⟩
    simp only [putsFrom, Act.put, List.setIfInBounds_toArray, List.set_cons_zero, List.set_cons_succ, Nat.reduceAdd, d2] at hK ⊢
    go_simp
    exact hK.out _ _ (Kp.refl _) rfl
  case sc4 =>
    refine OpStepQ.off 0 0 (by kernel_rfl) (by kernel_rfl) ?_
    intro x u p hp hg hd K hK
    obtain rfl : p = 0 := by omega
    change Kp w2 u at hg
    have d3 : (x 3) = .pointer (some ⟨pb, 0, none⟩) := And.left hd
    clear hd
    refine ⟨?_⟩
    simp only [putsFrom, Act.put, List.setIfInBounds_toArray, List.set_cons_zero, List.set_cons_succ, Nat.reduceAdd, d3] at hK ⊢
    go_simp
    exact hK.out _ _ (Kp.refl _) rfl
  case sc5 =>
    refine OpStepQ.off 0 0 (by kernel_rfl) (by kernel_rfl) ?_
    intro x u p hp hg hd K hK
    obtain rfl : p = 0 := by omega
    change Kp w2 u at hg
    have d4 : (x 4) = .pointer (some ⟨pb, 1, none⟩) := And.left hd
    clear hd
    have q9 := (HP.out.kp hg).c1
    refine ⟨?_⟩
    simp only [putsFrom, Act.put, List.setIfInBounds_toArray, List.set_cons_zero, List.set_cons_succ, Nat.reduceAdd, d4] at hK ⊢
    go_simp
    exact hK.out _ _ (Kp.refl _) rfl
  case sc6 =>
    refine OpStepQ.off 0 0 (by kernel_rfl) (by kernel_rfl) ?_
    intro x u p hp hg hd K hK
    obtain rfl : p = 0 := by omega
    change Kp w2 u at hg
    clear hd
    refine ⟨?_⟩
    simp only [putsFrom, Act.put, List.setIfInBounds_toArray, List.set_cons_zero, List.set_cons_succ, Nat.reduceAdd] at hK ⊢
    go_simp
    exact hK.out _ _ (Kp.refl _) rfl
  case sc7 =>
    refine OpStepQ.off 0 0 (by kernel_rfl) (by kernel_rfl) ?_
    intro x u p hp hg hd K hK
    obtain rfl : p = 0 := by omega
    change Kp w2 u at hg
    have d6 : (x 6) = .pointer (some ⟨pb, 0, none⟩) := And.left hd
    clear hd
    refine ⟨?_⟩
    simp only [putsFrom, Act.put, List.setIfInBounds_toArray, List.set_cons_zero, List.set_cons_succ, Nat.reduceAdd, d6] at hK ⊢
    go_simp
    exact hK.out _ _ (Kp.refl _) rfl
  case sc8 =>
    refine OpStepQ.off 0 0 (by kernel_rfl) (by kernel_rfl) ?_
    intro x u p hp hg hd K hK
    obtain rfl : p = 0 := by omega
    change Kp w2 u at hg
    have d7 : (x 7) = .pointer (some ⟨pb, 0, none⟩) := And.left hd
    clear hd
    refine ⟨?_⟩
    simp only [putsFrom, Act.put, List.setIfInBounds_toArray, List.set_cons_zero, List.set_cons_succ, Nat.reduceAdd, d7] at hK ⊢
    go_simp
    exact hK.out _ _ (Kp.refl _) rfl
  case sc9 =>
    refine OpStepQ.off 0 0 (by kernel_rfl) (by kernel_rfl) ?_
    intro x u p hp hg hd K hK
    obtain rfl : p = 0 := by omega
    change Kp w2 u at hg
    have d8 : (x 8) = .pointer (some ⟨pb, 0, none⟩) := And.left hd
    clear hd
    refine ⟨?_⟩
    simp only [putsFrom, Act.put, List.setIfInBounds_toArray, List.set_cons_zero, List.set_cons_succ, Nat.reduceAdd, d8] at hK ⊢
    go_simp
    exact hK.out _ _ (Kp.refl _) rfl
  case sc10 =>
    refine OpStepQ.off 0 0 (by kernel_rfl) (by kernel_rfl) ?_
    intro x u p hp hg hd K hK
    obtain rfl : p = 0 := by omega
    change Kp w2 u at hg
    have d9 : (x 9) = .pointer (some ⟨pb, 3, none⟩) := And.left hd
    clear hd
    have q9 := (HP.out.kp hg).c3
    refine ⟨?_⟩
    simp only [putsFrom, Act.put, List.setIfInBounds_toArray, List.set_cons_zero, List.set_cons_succ, Nat.reduceAdd, d9] at hK ⊢
    go_simp
    exact hK.out _ _ (Kp.refl _) rfl
  case sc11 =>
    refine OpStepQ.off 0 0 (by kernel_rfl) (by kernel_rfl) ?_
    intro x u p hp hg hd K hK
    obtain rfl : p = 0 := by omega
    change Kp w2 u at hg
    clear hd
    refine ⟨?_⟩
    simp only [putsFrom, Act.put, List.setIfInBounds_toArray, List.set_cons_zero, List.set_cons_succ, Nat.reduceAdd] at hK ⊢
    go_simp
    exact hK.out _ _ (Kp.refl _) rfl
  case sc12 =>
    refine OpStepQ.off 0 0 (by kernel_rfl) (by kernel_rfl) ?_
    intro x u p hp hg hd K hK
    obtain rfl : p = 0 := by omega
    change Kp w2 u at hg
    have d11 : (x 11) = .pointer (some ⟨w.heap.size, 2, none⟩) := And.left hd
    clear hd
    have hbb := (hg.block _ hbw2).trans ((HK2.out.block _ hbx).trans HBX.out)
    have q2 := blk_cell (o := 2) (v := .int .i64 e.v.k) hbb rfl
    have q3 := blk_cell (o := 3) (v := .int .i64 e.v.n) hbb rfl
    have q4 := blk_cell (o := 4) (v := .string e.v.s) hbb rfl
    have q5 := blk_cell (o := 5) (v := .slice A n c) hbb rfl
    clear hbb
    refine ⟨?_⟩
    simp only [putsFrom, Act.put, List.setIfInBounds_toArray, List.set_cons_zero, List.set_cons_succ, Nat.reduceAdd, d11] at hK ⊢
    go_simp
    exact hK.out _ _ (Kp.refl _) rfl
  case sc13 =>
    refine OpStepQ.off 0 0 (by kernel_rfl) (by kernel_rfl) ?_
    intro x u p hp hg hd K hK
    obtain rfl : p = 0 := by omega
    change Kp w2 u at hg
    have d12 : (x 12) = .agg #[.int .i64 e.v.k, .int .i64 e.v.n, .string e.v.s, .slice A n c] := And.left hd
    clear hd
    refine ⟨?_⟩
    simp only [putsFrom, Act.put, List.setIfInBounds_toArray, List.set_cons_zero, List.set_cons_succ, Nat.reduceAdd, d12] at hK ⊢
    go_simp
    go_at_call 58
    have hc := plain_any _ e.v u ⟨_, rfl, ((HLV.out.kp hk1.out).kp HK2.out).kp hg, HEV.out.1, HEV.out.2.1, HEV.out.2.2.1, HEV.out.2.2.2⟩
    refine hc.mono ?_
    clear hc
    rintro e u' ⟨⟨A', c', rfl, _⟩, hk⟩
    dsimp only
    exact hK.out _ _ hk ⟨A', c', by rw [HPM.out, HPL.out.1]; rfl⟩
  case sc14 =>
    refine OpStepQ.off 0 0 (by kernel_rfl) (by kernel_rfl) ?_
    intro x u p hp hg hd K hK
    obtain rfl : p = 0 := by omega
    change Kp w2 u at hg
    have d10 : (x 10) = .int .i64 S.ser := And.left hd
    have d13 : ∃ A' c', (x 13) = .agg #[.int .i64 pm.k, .int .i64 pm.n, .string pm.s, .slice A' 0 c'] := And.left (And.right hd)
    clear hd
    obtain ⟨A', c', e13⟩ := d13
    refine ⟨?_⟩
    simp only [putsFrom, Act.put, List.setIfInBounds_toArray, List.set_cons_zero, List.set_cons_succ, Nat.reduceAdd, d10, e13] at hK ⊢
    go_simp
    exact hK.out _ _ (Kp.refl _) ⟨A', c', rfl⟩
  case sc15 =>
    refine OpStepQ.off 0 0 (by kernel_rfl) (by kernel_rfl) ?_
    intro x u p hp hg hd K hK
    obtain rfl : p = 0 := by omega
    change Kp w2 u at hg
    have d14 : ∃ A' c', (x 14) = .agg #[.int .i64 S.ser, .int .i64 pm.k, .int .i64 pm.n, .string pm.s, .slice A' 0 c', .bool false, .bool false] := And.left hd
    clear hd
    obtain ⟨A', c', e14⟩ := d14
    refine ⟨?_⟩
    simp only [putsFrom, Act.put, List.setIfInBounds_toArray, List.set_cons_zero, List.set_cons_succ, Nat.reduceAdd, e14] at hK ⊢
    go_simp
    exact hK.out _ _ ((Kp.refl _).alloc _) ⟨A', c', _, rfl, hg.le, blk_new _ _⟩
  case sc16 =>
    refine OpStepQ.on 0 (by kernel_rfl) (by kernel_rfl) ?_
    intro x u hg hd K hK
    change Kp w2 u at hg
    have d5 : (x 5) = .slice Ap S.pn.length cp := And.left hd
    have d15 : ∃ A' c', LitAt w2.heap.size 46 #[.int .i64 S.ser, .int .i64 pm.k, .int .i64 pm.n, .string pm.s, .slice A' 0 c', .bool false, .bool false] (x 15) u := And.left (And.right hd)
    clear hd
    obtain ⟨A', c', b, e6, hb6, hlit⟩ := d15
    obtain ⟨xs, hown, hch⟩ := (HP.out.kp hg).pn
    rw [List.length_reverse] at hown
    refine ⟨?_⟩
    simp only [putsFrom, Act.put, List.setIfInBounds_toArray, List.set_cons_zero, List.set_cons_succ, Nat.reduceAdd, d5, e6] at hK ⊢
    rw [if_pos (by simp [Region.wanted])]
    refine wp_appP elPanic (.tmp 54) (.tmp 64) (by rfl) hown (by rfl) [.int .i64 S.ser, .int .i64 pm.k, .int .i64 pm.n, .string pm.s, .slice A' 0 c', .bool false, .bool false] _ 1 1 (by rfl) rfl (fun _ => ⟨_, rfl, lit_src hlit⟩) (by intro z hz; simp at hz; rcases hz with rfl | rfl | rfl | rfl | rfl | rfl <;> rfl) B1.out B2.out (Nat.le_trans hge hg.le) ?_
    intro v' w' G1 G2 G3 G4
    exact hK.out v' w' (KpF.of_grown G2 BP.out) ⟨(Touch.of_kp hg).trans (Touch.of_grown hown G2), PnRow.push (q := ⟨S.ser, pm, false, false⟩) hown hch rfl G1 ⟨hser.out.1, HQ.out.1, HQ.out.2.1, HQ.out.2.2, HPL.out.1, HPL.out.2⟩, Below.trans (Below.mono hg hge) G4⟩ trivial
  case sc17 =>
    refine OpStepQ.off 0 1 (by kernel_rfl) (by kernel_rfl) ?_
    intro x u p hp hg hd K hK
    have d0 : (x 0) = .pointer (some ⟨pb, 0, none⟩) := And.left hd
    clear hd
    refine ⟨?_⟩
    simp only [putsFrom, Act.put, List.setIfInBounds_toArray, List.set_cons_zero, List.set_cons_succ, Nat.reduceAdd, d0] at hK ⊢
    go_simp
    exact hK.out _ _ (Kp.refl _) rfl
  case sc18 =>
    refine OpStepQ.off 0 1 (by kernel_rfl) (by kernel_rfl) ?_
    intro x u p hp hg hd K hK
    have d17 : (x 17) = .pointer (some ⟨pb, 0, none⟩) := And.left hd
    clear hd
    refine ⟨?_⟩
    simp only [putsFrom, Act.put, List.setIfInBounds_toArray, List.set_cons_zero, List.set_cons_succ, Nat.reduceAdd, d17] at hK ⊢
    go_simp
    exact hK.out _ _ (Kp.refl _) rfl
  case sc19 =>
    refine OpStepQ.off 0 1 (by kernel_rfl) (by kernel_rfl) ?_
    intro x u p hp hg hd K hK
    have d18 : (x 18) = .pointer (some ⟨pb, 0, none⟩) := And.left hd
    clear hd
    refine ⟨?_⟩
    simp only [putsFrom, Act.put, List.setIfInBounds_toArray, List.set_cons_zero, List.set_cons_succ, Nat.reduceAdd, d18] at hK ⊢
    go_simp
    exact hK.out _ _ (Kp.refl _) rfl
  case sc20 =>
    refine OpStepQ.on 1 (by kernel_rfl) (by kernel_rfl) ?_
    intro x u hg hd K hK
    change Touch 46 w2 u ∧ PnRow u base (x 16) (⟨S.ser, pm, false, false⟩ :: S.pn) ∧ Below base w2 u at hg
    have d19 : (x 19) = .pointer (some ⟨pb, 1, none⟩) := And.left (And.right hd)
    clear hd
    obtain ⟨hg1, hg2, hg3⟩ := hg
    obtain ⟨A7, c7, e7, _⟩ := hg2.len
    simp only [List.length_cons] at e7
    have hb := HP.out.blkT hg1 (by decide)
    have q9 := blk_cell (o := 1) (v := .slice Ap S.pn.length cp) hb rfl
    have qf := blk_free (o := 1) hb
    have HE4 := hid (HP.out.panics_ hg1 hg2)
    have HG3 := hid hg3
    have e7' := hid e7
    clear hb hg1 hg2 hg3
    refine ⟨?_⟩
    simp only [putsFrom, Act.put, List.setIfInBounds_toArray, List.set_cons_zero, List.set_cons_succ, Nat.reduceAdd, d19, e7] at hK ⊢
    go_simp
    rw [e7'.out] at HE4
    exact hK.out undef _ (KpF.setCell hpb _) ⟨⟨_, HE4.out⟩, HG3.out.setCell hpge _⟩ trivial
  intro x u hg he
  have d0 : (x 0) = .pointer (some ⟨pb, 0, none⟩) := And.left he
  have d1 : (x 1) = .pointer (some ⟨pb, 0, none⟩) := And.left (And.right he)
  have d2 : (x 2) = .pointer (some ⟨pb, 0, none⟩) := And.left (And.right (And.right he))
  have d3 : (x 3) = .pointer (some ⟨pb, 0, none⟩) := And.left (And.right (And.right (And.right he)))
  have d4 : (x 4) = .pointer (some ⟨pb, 1, none⟩) := And.left (And.right (And.right (And.right (And.right he))))
  have d5 : (x 5) = .slice Ap S.pn.length cp := And.left (And.right (And.right (And.right (And.right (And.right he)))))
  have d6 : (x 6) = .pointer (some ⟨pb, 0, none⟩) := And.left (And.right (And.right (And.right (And.right (And.right (And.right he))))))
  have d7 : (x 7) = .pointer (some ⟨pb, 0, none⟩) := And.left (And.right (And.right (And.right (And.right (And.right (And.right (And.right he)))))))
  have d8 : (x 8) = .pointer (some ⟨pb, 0, none⟩) := And.left (And.right (And.right (And.right (And.right (And.right (And.right (And.right (And.right he))))))))
  have d9 : (x 9) = .pointer (some ⟨pb, 3, none⟩) := And.left (And.right (And.right (And.right (And.right (And.right (And.right (And.right (And.right (And.right he)))))))))
  have d10 : (x 10) = .int .i64 S.ser := And.left (And.right (And.right (And.right (And.right (And.right (And.right (And.right (And.right (And.right (And.right he))))))))))
  have d11 : (x 11) = .pointer (some ⟨w.heap.size, 2, none⟩) := And.left (And.right (And.right (And.right (And.right (And.right (And.right (And.right (And.right (And.right (And.right (And.right he)))))))))))
  have d12 : (x 12) = .agg #[.int .i64 e.v.k, .int .i64 e.v.n, .string e.v.s, .slice A n c] := And.left (And.right (And.right (And.right (And.right (And.right (And.right (And.right (And.right (And.right (And.right (And.right (And.right he))))))))))))
  have d13 : ∃ A' c', (x 13) = .agg #[.int .i64 pm.k, .int .i64 pm.n, .string pm.s, .slice A' 0 c'] := And.left (And.right (And.right (And.right (And.right (And.right (And.right (And.right (And.right (And.right (And.right (And.right (And.right (And.right he)))))))))))))
  have d14 : ∃ A' c', (x 14) = .agg #[.int .i64 S.ser, .int .i64 pm.k, .int .i64 pm.n, .string pm.s, .slice A' 0 c', .bool false, .bool false] := And.left (And.right (And.right (And.right (And.right (And.right (And.right (And.right (And.right (And.right (And.right (And.right (And.right (And.right (And.right he))))))))))))))
  have d15 : ∃ A' c', LitAt w2.heap.size 46 #[.int .i64 S.ser, .int .i64 pm.k, .int .i64 pm.n, .string pm.s, .slice A' 0 c', .bool false, .bool false] (x 15) u := And.left (And.right (And.right (And.right (And.right (And.right (And.right (And.right (And.right (And.right (And.right (And.right (And.right (And.right (And.right (And.right he)))))))))))))))
  have d17 : (x 17) = .pointer (some ⟨pb, 0, none⟩) := And.left (And.right (And.right (And.right (And.right (And.right (And.right (And.right (And.right (And.right (And.right (And.right (And.right (And.right (And.right (And.right (And.right (And.right he)))))))))))))))))
  have d18 : (x 18) = .pointer (some ⟨pb, 0, none⟩) := And.left (And.right (And.right (And.right (And.right (And.right (And.right (And.right (And.right (And.right (And.right (And.right (And.right (And.right (And.right (And.right (And.right (And.right (And.right he))))))))))))))))))
  have d19 : (x 19) = .pointer (some ⟨pb, 1, none⟩) := And.left (And.right (And.right (And.right (And.right (And.right (And.right (And.right (And.right (And.right (And.right (And.right (And.right (And.right (And.right (And.right (And.right (And.right (And.right (And.right he)))))))))))))))))))
  clear he
  change (∃ pv2, Pl u base pb fv pv2 tv { S with pn := ⟨S.ser, pm, false, false⟩ :: S.pn }) ∧ Below base w2 u at hg
  refine ⟨?_⟩
  simp only [putsFrom, Act.put, List.setIfInBounds_toArray, List.set_cons_zero, List.set_cons_succ, Nat.reduceAdd, d0, d1, d2, d3, d4, d5, d6, d7, d8, d9, d10, d11, d12, d17, d18, d19]
  clear d0 d1 d2 d3 d4 d5 d6 d7 d8 d9 d10 d11 d12 d17 d18 d19
  obtain ⟨⟨pv2, hp2⟩, hb2⟩ := hg
  have c3 := hp2.c3; have qf := hp2.fz
  have w9 : IntKind.i64.wrap (S.ser + 1) = S.ser + 1 := IntWalk.i64_in _ (by have := HB.out.s0; have := HB.out.s1; omega)
  have s0 := HB.out.s0; have s1 := HB.out.s1
  have HP3 := hid (hp2.ser_ (x := S.ser + 1) hser.out.2)
  have HB3 := hid ((Below.trans (Below.trans HKB.out (Below.mono HK2.out (by have := H.out.ge; omega))) hb2).setCell (p := ⟨pb, 3, none⟩) hpge (.int .i64 (S.ser + 1)))
  clear hp2 hb2
  have HPP := hid (show Player (u.setCell ⟨pb, 3, none⟩ (.int .i64 (S.ser + 1))) base pb { S with pn := ⟨S.ser, pm, false, false⟩ :: S.pn, ser := S.ser + 1 } from ⟨_, _, _, HP3.out⟩)
  go_wp2_with fail
  generalize (u.setCell ⟨pb, 3, none⟩ (.int .i64 (S.ser + 1))) = W5 at HPP HB3 ⊢
  obtain ⟨g, cg, Ag, cd, c0, hg1, hg2, _, _, _, p3, _, pf, _, hset, _⟩ := HPP.out.top (f := f) (r := r) HF.out
  have HSET := hid (hset 2 (ok_small (by omega) (by omega)))
  have P3 := hid p3; have PF := hid pf
  clear hset p3 pf c3 w9 qf
  have hc := top_at W5 pb g r.length cg c0 (by omega)
  refine hc.mono ?_; clear hc
  rintro e' w6 ⟨rfl, n1, rfl⟩
  have p3 := P3.out; have pf := PF.out (r.length * 5 + 3)
  go_wp2_with fail
  have HPW := hid (show Player ((W5.drewN n1).setCell ⟨g, r.length * 5 + 3, none⟩ (.int .i64 2)) base pb { S with pn := ⟨S.ser, pm, false, false⟩ :: S.pn, ser := S.ser + 1, fr := { f with phase := 2 } :: r } from HSET.out.drewN n1)
  have hc := settle_any _ base pb _ HPW.out HEN.out HSM.out
  refine hc.mono ?_; clear hc
  rintro e' w7 ⟨rfl, hp7, hb7⟩
  have HP7 := hid hp7
  have HB7 := hid (Below.trans ((below_drewN HB3.out n1).setCell (p := ⟨g, r.length * 5 + 3, none⟩) hg1 (.int .i64 2)) hb7)
  clear hp7 hb7 p3 pf c0
  go_wp2
  go_ret
  exact ⟨rfl, by rw [HE.out, HPH.out]; exact HP7.out, HB7.out⟩
/-- The events that may happen. -/
def okEv (e : EventM) : Prop := (e.kind = 1 ∨ e.kind = 2 ∨ e.kind = 3 ∨ e.kind = 4 ∨ e.kind = 5 ∨ e.kind = 6) ∧ (e.kind = 4 → mayM e.v = true)
theorem event_any (w : World) (base pb : Nat) (S : PlM) (v : Value) (e : EventM) (h : Player w base pb S) (hv : RdEvent w v e) (he : okEv e) (hb : Bd S) (hr : Runs S) (hd : ∀ f ∈ S.fr, f.defers.length ≤ 900000) : Calls Try.prog 33 #[.pointer (some ⟨pb, 0, none⟩), v] w (EvPost w base pb (eventM S e)) := by
  obtain ⟨lv, rfl, h0, h1, h2, h3, h4, h5, h6⟩ := hv
  have hl : ∃ A n c, lv = .slice A n c := by obtain ⟨A, c, h⟩ := h2.form; exact ⟨A, _, c, h⟩
  rcases he.1 with hk | hk | hk | hk | hk | hk
  · exact event_1 w base pb S e lv h hl hk hb
  · exact event_2 w base pb S e lv h hl hk hb hr
  · exact event_3 w base pb S e lv h hl hk h1 hb hr hd
  · exact event_4 w base pb S e lv h h2 ⟨h3, h4, h5, h6⟩ hk (he.2 hk) hb hr
  · exact event_5 w base pb S e lv h hl hk hb hr
  · exact event_6 w base pb S e lv h hl hk hb
end Go.Proofs.Ytiicdknmoakocaa
