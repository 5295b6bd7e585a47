/-
  Package scan: Tokens. Condition: the reach of a text.
-/
import Derived.Test.YtgonekmmbeedeaaScanF
import Derived.Recover
import Derived.Defers
namespace Go.Proofs.Ytgonekmmbeedeaa
open Go.RowKit
set_option linter.unusedVariables false
set_option linter.unusedSimpArgs false

/-- The two results of Tokens, in memory. -/
structure ResAt (w : World) (b0 b1 : Nat) (v : Value) (s : Array Value) : Prop where
  a : w.heap[b0]? = some (.cells #[v] 85 (0, 0))
  b : w.heap[b1]? = some (.cells s 48 (0, 0))
theorem ResAt.kp {w w' : World} {b0 b1 : Nat} {v : Value} {s : Array Value} (h : ResAt w b0 b1 v s) (hk : Kp w w') : ResAt w' b0 b1 v s := ⟨(hk.block b0 (blk_lt h.a)).trans h.a, (hk.block b1 (blk_lt h.b)).trans h.b⟩
theorem ResAt.below {B : Nat} {w w' : World} {b0 b1 : Nat} {v : Value} {s : Array Value} (h : ResAt w b0 b1 v s) (hk : Below B w w') (h0 : b0 < B) (h1 : b1 < B) : ResAt w' b0 b1 v s := ⟨(hk.block b0 h0).trans h.a, (hk.block b1 h1).trans h.b⟩
theorem ResAt.set0 {w : World} {b0 b1 : Nat} {v : Value} {s : Array Value} (h : ResAt w b0 b1 v s) (hn : b0 ≠ b1) (v2 : Value) : ResAt (w.setCell ⟨b0, 0, none⟩ v2) b0 b1 v2 s := ⟨blk_set h.a _, (blk_far (p := ⟨b0, 0, none⟩) (fun e => hn e.symm) _).trans h.b⟩
theorem ResAt.set1 {w : World} {b0 b1 : Nat} {v x y z : Value} (h : ResAt w b0 b1 v #[x, y, z]) (hn : b0 ≠ b1) (x2 y2 z2 : Value) : ResAt (((w.setCell ⟨b1, 0, none⟩ x2).setCell ⟨b1, 1, none⟩ y2).setCell ⟨b1, 2, none⟩ z2) b0 b1 v #[x2, y2, z2] :=
  ⟨(blk_far (p := ⟨b1, 2, none⟩) hn _).trans ((blk_far (p := ⟨b1, 1, none⟩) hn _).trans ((blk_far (p := ⟨b1, 0, none⟩) hn _).trans h.a)), blk_set (blk_set (blk_set h.b _) _) _⟩
def stopV (e : Err) : Value := .agg #[.int .i64 e.1, .int .i64 e.2.1, .int .i64 e.2.2]
def errS (e : Err) : Array Value := #[.int .i64 e.1, .int .i64 e.2.1, .int .i64 e.2.2]
theorem rep7 : Array.replicate 7 undef = #[undef, undef, undef, undef, undef, undef, undef] := rfl
set_option maxRecDepth 20000 in
set_option maxHeartbeats 4000000 in
theorem catch_stop (w : World) (B b0 b1 : Nat) (v0 x0 y0 z0 : Value) (er : Err) (hr : ResAt w b0 b1 v0 #[x0, y0, z0]) (hn : b0 ≠ b1) (h0 : B ≤ b0) (h1 : B ≤ b1) (older : List PanicEntry) :
    CallsD Try.prog 61 #[.pointer (some ⟨b0, 0, none⟩), .pointer (some ⟨b1, 0, none⟩)] (.panicking ({ v := .iface 114 (.agg #[.int .i64 er.1, .int .i64 er.2.1, .int .i64 er.2.2]), recovered := false } :: older)) w fun e u' w' =>
      e = .returned (.tuple #[]) ∧ u' = .panicking ({ v := .iface 114 (.agg #[.int .i64 er.1, .int .i64 er.2.1, .int .i64 er.2.2]), recovered := true } :: older) ∧ ResAt w' b0 b1 (.slice none 0 0) (errS er) ∧ Below B w w' := by
  refine callsD_of_wpS Try.func61 rfl fun c₀ cs hu => ?_
  apply wpS_seq
  apply wpS_region
  simp [wpOpsS, go_sem, recoverD, hu, Try.ntmps61, Exit.thenS, rep7]
  apply wpS_seq
  apply wpS_region
  simp [wpOpsS, go_sem, Exit.thenS]
  refine wpS_cond (t := true) (by simp [Act.eval]) ?_
  simp only [if_true]
  refine wpS_of_wp ?_
  have HR := hid hr
  have HB0 := hid (blk_lt hr.a); have HB1 := hid (blk_lt hr.b)
  clear hr
  refine wp_region_phase [3, 4] [(0, 1), (0, 1), (0, 1), (0, 0), (0, 0)] (fun _ _ => True) [[], [0], [1], [], [2, 3]]
    (fun (p : Nat) (x : Nat → Value) (u : World) => match p with | 0 => Kp w u | 1 => ResAt u b0 b1 (.slice none 0 0) #[x0, y0, z0] ∧ Below B w u | _ => ResAt u b0 b1 (.slice none 0 0) (errS er) ∧ Below B w u)
    [fun (y : Value) (u : World) => y = (.iface 114 (.agg #[.int .i64 er.1, .int .i64 er.2.1, .int .i64 er.2.2]) : Value),
     fun (y : Value) (u : World) => y = (.agg #[.int .i64 er.1, .int .i64 er.2.1, .int .i64 er.2.2] : Value),
     fun (y : Value) (u : World) => y = (.agg #[.int .i64 er.1, .int .i64 er.2.1, .int .i64 er.2.2] : Value),
     fun (y : Value) (u : World) => True,
     fun (y : Value) (u : World) => True]
    (by kernel_rfl) (by kernel_rfl) (by kernel_rfl) (by kernel_rfl) (by kernel_rfl) (by kernel_rfl) (fun _ _ _ => trivial) ((Kp.refl w).drew) ?hKb ?hXb ⟨fun _ _ _ _ h => h, fun _ _ _ _ h => h, fun _ _ _ _ h => h, fun _ _ _ _ _ => trivial, fun _ _ _ _ _ => trivial, trivial⟩ ⟨?sb0, ?sb1, ?sb2, ?sb3, ?sb4, trivial⟩ ?hEb
  case hKb =>
    intro p x w w' hk h
    rcases p with _ | _ | p
    · exact h.trans hk
    · exact ⟨h.1.kp hk, Below.trans h.2 (Below.mono hk (Nat.le_trans (Nat.le_trans h0 (Nat.le_of_lt HB0.out)) h.2.size))⟩
    · exact ⟨h.1.kp hk, Below.trans h.2 (Below.mono hk (Nat.le_trans (Nat.le_trans h0 (Nat.le_of_lt HB0.out)) h.2.size))⟩
  case hXb =>
    intro p x i v w hi h
    have e0 : upd x i v 3 = x 3 := if_neg (fun hh => hi (by rw [← hh]; decide))
    have e1 : upd x i v 4 = x 4 := if_neg (fun hh => hi (by rw [← hh]; decide))
    rcases p with _ | _ | p
    · first | exact h | (simp only [e0, e1]; exact h)
    · first | exact h | (simp only [e0, e1]; exact h)
    · first | exact h | (simp only [e0, e1]; exact h)
  case sb0 =>
    refine OpStepQ.off 0 1 (by kernel_rfl) (by kernel_rfl) ?_
    intro x u p hp hg hd K hK
    clear hd
    refine ⟨?_⟩
    simp only [putsFrom, Act.put, List.setIfInBounds_toArray, List.set_cons_zero, List.set_cons_succ, Nat.reduceAdd] at hK ⊢
    go_simp
    exact hK.out _ _ (Kp.refl _) rfl
  case sb1 =>
    refine OpStepQ.off 0 1 (by kernel_rfl) (by kernel_rfl) ?_
    intro x u p hp hg hd K hK
    have d0 : (x 0) = .iface 114 (.agg #[.int .i64 er.1, .int .i64 er.2.1, .int .i64 er.2.2]) := And.left hd
    clear hd
    refine ⟨?_⟩
    simp only [putsFrom, Act.put, List.setIfInBounds_toArray, List.set_cons_zero, List.set_cons_succ, Nat.reduceAdd, d0] at hK ⊢
    go_simp
    exact hK.out _ _ (Kp.refl _) rfl
  case sb2 =>
    refine OpStepQ.off 0 1 (by kernel_rfl) (by kernel_rfl) ?_
    intro x u p hp hg hd K hK
    have d1 : (x 1) = .agg #[.int .i64 er.1, .int .i64 er.2.1, .int .i64 er.2.2] := And.left hd
    clear hd
    refine ⟨?_⟩
    simp only [putsFrom, Act.put, List.setIfInBounds_toArray, List.set_cons_zero, List.set_cons_succ, Nat.reduceAdd, d1] at hK ⊢
    go_simp
    exact hK.out _ _ (Kp.refl _) rfl
  case sb3 =>
    refine OpStepQ.on 0 (by kernel_rfl) (by kernel_rfl) ?_
    intro x u hg hd K hK
    change Kp w u at hg
    clear hd
    have hru := HR.out.kp hg
    have HRU := hid hru
    have HGG := hid hg
    have q0 : u.cell? ⟨b0, 0, none⟩ = some v0 := blk_cell hru.a rfl
    have qf : u.frozen? ⟨b0, 0, none⟩ = false := blk_free hru.a
    clear hru
    refine ⟨?_⟩
    simp only [putsFrom, Act.put, List.setIfInBounds_toArray, List.set_cons_zero, List.set_cons_succ, Nat.reduceAdd] at hK ⊢
    go_simp
    exact hK.out undef _ trivial ⟨HRU.out.set0 hn _, (Below.mono HGG.out (Nat.le_trans h0 (Nat.le_of_lt HB0.out))).setCell h0 _⟩ trivial
  case sb4 =>
    refine OpStepQ.on 1 (by kernel_rfl) (by kernel_rfl) ?_
    intro x u hg hd K hK
    change ResAt u b0 b1 (.slice none 0 0) #[x0, y0, z0] ∧ Below B w u at hg
    have d2 : (x 2) = .agg #[.int .i64 er.1, .int .i64 er.2.1, .int .i64 er.2.2] := And.left hd
    clear hd
    have hru := hg.1
    have HRU := hid hru
    have HGG := hid hg.2
    have q0 : u.cell? ⟨b1, 0, none⟩ = some x0 := blk_cell hru.b rfl
    have q1 : u.cell? ⟨b1, 1, none⟩ = some y0 := blk_cell hru.b rfl
    have q2 : u.cell? ⟨b1, 2, none⟩ = some z0 := blk_cell hru.b rfl
    have qf : u.frozen? ⟨b1, 0, none⟩ = false := blk_free hru.b
    have qf1 : u.frozen? ⟨b1, 1, none⟩ = false := blk_free hru.b
    have qf2 : u.frozen? ⟨b1, 2, none⟩ = false := blk_free hru.b
    clear hru
    refine ⟨?_⟩
    simp only [putsFrom, Act.put, List.setIfInBounds_toArray, List.set_cons_zero, List.set_cons_succ, Nat.reduceAdd, d2] at hK ⊢
    go_simp
    exact hK.out undef _ trivial ⟨HRU.out.set1 hn _ _ _, ((HGG.out.setCell h1 _).setCell h1 _).setCell h1 _⟩ trivial
  intro x u hg he
  have d0 : (x 0) = .iface 114 (.agg #[.int .i64 er.1, .int .i64 er.2.1, .int .i64 er.2.2]) := And.left he
  have d1 : (x 1) = .agg #[.int .i64 er.1, .int .i64 er.2.1, .int .i64 er.2.2] := And.left (And.right he)
  have d2 : (x 2) = .agg #[.int .i64 er.1, .int .i64 er.2.1, .int .i64 er.2.2] := And.left (And.right (And.right he))
  clear he
  change ResAt u b0 b1 (.slice none 0 0) (errS er) ∧ Below B w u at hg
  refine ⟨?_⟩
  simp only [putsFrom, Act.put, List.setIfInBounds_toArray, List.set_cons_zero, List.set_cons_succ, Nat.reduceAdd, d0, d1, d2]
  clear d0 d1 d2
  obtain ⟨hru, hbw⟩ := hg
  refine ⟨rfl, _, rfl, _, by simp [results, Try.results61], rfl, ?_, hru, hbw⟩
  rfl
theorem catch_idle (w : World) (p0 p1 : Addr) :
    CallsD Try.prog 61 #[.pointer (some p0), .pointer (some p1)] .returning w fun e u' w' => e = .returned (.tuple #[]) ∧ u' = .returning ∧ w' = w := by
  refine callsD_of_wpS Try.func61 rfl fun c₀ cs hu => ?_
  apply wpS_seq
  apply wpS_region
  simp [wpOpsS, go_sem, recoverD, hu, Try.ntmps61, Exit.thenS, rep7]
  apply wpS_seq
  apply wpS_region
  simp [wpOpsS, go_sem, Exit.thenS]
  refine wpS_cond (t := false) (by simp [Act.eval]) ?_
  simp only [Bool.false_eq_true, if_false]
  refine wpS_of_wp (wp_skip ?_)
  cases c₀
  simp_all [bodyPostS, results, Try.results61]
theorem blk_new2 (w : World) (x y : Obj) : ((w.alloc x).alloc y).heap[w.heap.size + 1]? = some y := by
  have e : (w.alloc x).heap.size = w.heap.size + 1 := by simp
  rw [← e]; exact blk_new _ _
/-- What Tokens answers. -/
def TokP (w : World) (S : ByteArray) (e : Ending) (w' : World) : Prop :=
  ((∃ l v, ToksM S (.ok l) ∧ e = .returned (.tuple #[v, .agg #[.int .i64 0, .int .i64 0, .int .i64 0]]) ∧ OwnL CeToken 4 119 w' w.heap.size v l) ∨
   (∃ er : Err, ToksM S (.error er) ∧ 1 ≤ er.1 ∧ er.1 ≤ 20 ∧ e = .returned (.tuple #[.slice none 0 0, .agg #[.int .i64 er.1, .int .i64 er.2.1, .int .i64 er.2.2]]))) ∧ Kp w w'
theorem putM_err {c : CutM} {k : Int} {t : ByteArray} {n : Nat} {er : Err} (h : putM c k t n = .error er) : er = (15, c.line, c.col) := by
  unfold putM at h
  split at h
  · injection h with h; exact h.symm
  · cases h
theorem lineEndM_err {c : CutM} {er : Err} (h : lineEndM c = .error er) : er = (15, c.line, c.col) := by
  unfold lineEndM at h
  split at h
  · split at h
    · exact putM_err h
    · cases h
  · cases h
theorem stepM_err {S : ByteArray} {c : CutM} {er : Err} (hl : c.pos < S.size) (h : stepM S c = .error er) : 1 ≤ er.1 ∧ er.1 ≤ 20 ∧ er.2.1 = c.line ∧ er.2.2 = c.col := by
  have hne : restOf S c.pos ≠ [] := by rw [rest_cons hl]; exact List.cons_ne_nil _ _
  obtain ⟨_, _, g3⟩ := lex_len hne
  unfold stepM at h
  split at h
  · cases hq : lineEndM c with
    | error e =>
      rw [hq] at h
      injection h with h
      subst h
      rw [lineEndM_err hq]; exact ⟨by show (1 : Int) ≤ 15; omega, by show (15 : Int) ≤ 20; omega, rfl, rfl⟩
    | ok c1 => rw [hq] at h; cases h
  · cases h
  · rw [putM_err h]; exact ⟨by show (1 : Int) ≤ 15; omega, by show (15 : Int) ≤ 20; omega, rfl, rfl⟩
  · rename_i e he
    injection h with h
    subst h
    have := g3 e he
    exact ⟨by show 1 ≤ e; omega, by show e ≤ 20; omega, rfl, rfl⟩
set_option maxRecDepth 20000 in
set_option maxHeartbeats 8000000 in
theorem toks_any (w : World) (S : ByteArray) (hs : S.size ≤ 140737488351232) : Calls Try.prog 39 #[.string S] w (TokP w S) := by
  have hmf : ∀ (fn : Fn) (first cap : Array Value) (w : World), (Instr.makeFunc fn first cap).run Try.prog w = .ok (.func fn first cap) w := fun _ _ _ _ => rfl
  have HB1 := hid (show ((w.alloc (.cells #[.slice none 0 0] 85)).alloc (.cells #[.int .i64 0, .int .i64 0, .int .i64 0] 48)).heap[w.heap.size]? = some (.cells #[.slice none 0 0] 85 (0, 0)) from blk_old (blk_new _ _) _)
  have HB2 := hid (show ((w.alloc (.cells #[.slice none 0 0] 85)).alloc (.cells #[.int .i64 0, .int .i64 0, .int .i64 0] 48)).heap[w.heap.size + 1]? = some (.cells #[.int .i64 0, .int .i64 0, .int .i64 0] 48 (0, 0)) from blk_new2 _ _ _)
  have HKA := hid (show Kp w ((w.alloc (.cells #[.slice none 0 0] 85)).alloc (.cells #[.int .i64 0, .int .i64 0, .int .i64 0] 48)) from ((Kp.refl w).alloc _).alloc _)
  by_cases h8 : 8000 < S.size
  · have i1 : (8000 : Int) < (S.size : Int) := by omega
    have HT := hid (show ToksM S (.error (1, 0, 0)) by unfold ToksM; rw [if_pos h8])
    clear h8 hs
    go_enter_defers Try.func39, Try.ntmps39
    go_wp2
    exact ⟨_, by simp [results, Try.results39, go_sem], .inr ⟨(1, 0, 0), HT.out, by show (1 : Int) ≤ 1; omega, by show (1 : Int) ≤ 20; omega, rfl⟩, ((Kp.refl w).alloc _).alloc _⟩
  · have i1 : ¬ (8000 : Int) < (S.size : Int) := by omega
    have BD0 := hid (cut0_bd (S := S) (by omega))
    have HTM := hid (fun r (h : Runs S cut0 r) => (show ToksM S r by unfold ToksM; rw [if_neg h8]; exact h))
    have HSZ := hid (show S.size ≤ 8000 by omega)
    clear h8 hs
    have HR0 := hid (show ResAt (((w.alloc (.cells #[.slice none 0 0] 85)).alloc (.cells #[.int .i64 0, .int .i64 0, .int .i64 0] 48)).alloc (.cells #[.string S, .int .i64 0, .int .i64 1, .int .i64 1, .slice none 0 0] 117)) w.heap.size (w.heap.size + 1) (.slice none 0 0) #[.int .i64 0, .int .i64 0, .int .i64 0] from ⟨blk_old HB1.out _, blk_old HB2.out _⟩)
    have HZ := hid (show ((w.alloc (.cells #[.slice none 0 0] 85)).alloc (.cells #[.int .i64 0, .int .i64 0, .int .i64 0] 48)).heap.size = w.heap.size + 1 + 1 by simp)
    have HC0 := hid (show Cut (((w.alloc (.cells #[.slice none 0 0] 85)).alloc (.cells #[.int .i64 0, .int .i64 0, .int .i64 0] 48)).alloc (.cells #[.string S, .int .i64 0, .int .i64 1, .int .i64 1, .slice none 0 0] 117)) (w.heap.size + 1 + 1) S cut0 (.slice none 0 0) from ⟨by rw [← HZ.out]; exact blk_new _ _, OwnL.nil _ _ _ _ _⟩)
    have HK0 := hid (HKA.out.alloc (.cells #[.string S, .int .i64 0, .int .i64 1, .int .i64 1, .slice none 0 0] 117))
    clear HB1 HB2 HKA
    go_enter_defers Try.func39, Try.ntmps39
    go_wp2_with fail
    obtain ⟨cb, hcb⟩ : ∃ cb, w.heap.size + 1 + 1 = cb := ⟨_, rfl⟩
    rw [hcb] at HC0 ⊢
    obtain ⟨b1, hb1⟩ : ∃ b1, w.heap.size + 1 = b1 := ⟨_, rfl⟩
    rw [hb1] at HR0 ⊢
    generalize (((w.alloc (.cells #[.slice none 0 0] 85)).alloc (.cells #[.int .i64 0, .int .i64 0, .int .i64 0] 48)).alloc (.cells #[.string S, .int .i64 0, .int .i64 1, .int .i64 1, .slice none 0 0] 117)) = W3 at HR0 HC0 HK0 ⊢
    obtain ⟨b0, hb0⟩ : ∃ b0, w.heap.size = b0 := ⟨_, rfl⟩
    rw [hb0] at HR0 ⊢
    have HN := hid (show w.heap.size = b0 ∧ b0 < b1 ∧ b1 < cb by omega)
    clear hcb hb1 hb0 HZ i1
    go_loopw [] (fun wr => ∃ c, CutS wr cb S c ∧ (∀ r, Runs S c r → Runs S cut0 r) ∧ ResAt wr b0 b1 (.slice none 0 0) #[.int .i64 0, .int .i64 0, .int .i64 0] ∧ Kp w wr) (fun wr => S.size - posOf wr cb)
    case atStart => exact ⟨cut0, ⟨⟨_, HC0.out⟩, BD0.out⟩, fun r h => h, HR0.out, HK0.out⟩
    case round =>
      obtain ⟨c, hcs, hrn, hra, hkp⟩ := hrel
      have HCS := hid hcs; have HRN := hid hrn; have HRA := hid hra; have HKR := hid hkp
      obtain ⟨⟨ov, hcu⟩, bd⟩ := hcs
      have HCU := hid hcu; have BD := hid bd
      have c1 := hcu.c1
      have hlt := hcu.lt
      clear hrn hra hkp hcu
      by_cases hl : c.pos < S.size
      · have i2 : (c.pos : Int) < (S.size : Int) := by omega
        have HL := hid hl
        cases hq : stepM S c with
        | ok c2 =>
          have HQ := hid hq
          have HPP := hid (bd.step hl hq).2
          clear hq bd
          go_wp2_with (go_at_call 62; go_must (refine (token_any _ cb S c HCS.out HL.out).mono ?_); intro e w9 hp; obtain ⟨he, hc2, hb2⟩ := CutP.of_ok hp HQ.out; subst he; clear hp)
          have hcs2 := hc2
          obtain ⟨⟨ov2, hcu2⟩, _⟩ := hcs2
          refine ⟨⟨c2, hc2, fun r h => HRN.out r (.step HL.out HQ.out h), HRA.out.below hb2 (by have := HN.out; omega) (by have := HN.out; omega), Below.trans HKR.out (Below.mono hb2 (by have := HN.out; omega))⟩, ?_⟩
          rw [hcu2.posOf, HCU.out.posOf]
          have := HPP.out; have := HL.out; omega
        | error er =>
          have HQ := hid hq
          have HER := hid (stepM_err hl hq)
          clear hq bd
          go_wp2_with (go_at_call 62; go_must (refine (token_any _ cb S c HCS.out HL.out).mono ?_); intro e w9 hp; obtain ⟨he, hb2⟩ := CutP.of_err hp HQ.out; unfold stopE at he; subst he; clear hp)
          refine leaves_cons (f := 61) (args := #[.pointer (some ⟨b0, 0, none⟩), .pointer (some ⟨b1, 0, none⟩)]) (by simp) (by simp [go_sem]) ?_
          refine (catch_stop _ b0 b0 b1 _ _ _ _ er (HRA.out.below hb2 (by have := HN.out; omega) (by have := HN.out; omega)) (by have := HN.out; omega) (Nat.le_refl _) (by have := HN.out; omega) []).mono ?_
          rintro e u' w'' ⟨rfl, rfl, hr3, hb3⟩
          have q0 : w''.cell? ⟨b0, 0, none⟩ = some (.slice none 0 0) := blk_cell hr3.a rfl
          have q1 : w''.cell? ⟨b1, 0, none⟩ = some (.int .i64 er.1) := blk_cell hr3.b rfl
          have q2 : w''.cell? ⟨b1, 1, none⟩ = some (.int .i64 er.2.1) := blk_cell hr3.b rfl
          have q3 : w''.cell? ⟨b1, 2, none⟩ = some (.int .i64 er.2.2) := blk_cell hr3.b rfl
          have hkf : Kp w w'' := Below.trans HKR.out (Below.trans (Below.mono hb2 (by have := HN.out; omega)) (by have h := HN.out.1; rw [h]; exact hb3))
          refine ⟨_, by simp [results, Try.results39, go_sem, q0, q1, q2, q3], .inr ⟨er, HTM.out _ (HRN.out _ (.bad HL.out HQ.out)), HER.out.1, HER.out.2.1, rfl⟩, hkf⟩
      · have i2 : ¬ (c.pos : Int) < (S.size : Int) := by omega
        have HL := hid (Nat.le_of_not_lt hl)
        cases hq : lineEndM c with
        | ok c2 =>
          have HQ := hid hq
          clear hq bd
          go_wp2_with (go_at_call 63; go_must (refine (lineEnd_any _ cb S c HCS.out).mono ?_); intro e w9 hp; obtain ⟨he, hc2, hb2⟩ := CutP.of_ok hp HQ.out; subst he; clear hp; obtain ⟨⟨ov2, hcu2⟩, _⟩ := hc2; obtain ⟨A2, cp2, rfl⟩ := hcu2.len; have HC2 := hid hcu2; have HB2 := hid hb2; have q4 := hcu2.c4; have hlt2 := hcu2.lt; have hr2 := HRA.out.below hb2 (by have := HN.out; omega) (by have := HN.out; omega); have HR2 := hid hr2; have r0 : w9.cell? ⟨b0, 0, none⟩ = some (.slice none 0 0) := blk_cell hr2.a rfl; have r1 : w9.cell? ⟨b1, 0, none⟩ = some (.int .i64 0) := blk_cell hr2.b rfl; have r2 : w9.cell? ⟨b1, 1, none⟩ = some (.int .i64 0) := blk_cell hr2.b rfl; have r3 : w9.cell? ⟨b1, 2, none⟩ = some (.int .i64 0) := blk_cell hr2.b rfl; have f0 := blk_free (o := 0) hr2.a; have f1 := blk_free (o := 0) hr2.b; have f2 := blk_free (o := 1) hr2.b; have f3 := blk_free (o := 2) hr2.b; have n1 : ¬ b0 = b1 := (by have := HN.out; omega); have n2 : ¬ b1 = b0 := (by have := HN.out; omega); clear hcu2 hb2 hr2)
          refine leaves_cons (f := 61) (args := #[.pointer (some ⟨b0, 0, none⟩), .pointer (some ⟨b1, 0, none⟩)]) (by simp) (by simp [go_sem]) ?_
          refine (catch_idle _ ⟨b0, 0, none⟩ ⟨b1, 0, none⟩).mono ?_
          rintro e u' w'' ⟨rfl, rfl, rfl⟩
          have hs0 := HR2.out.set0 n1 (.slice A2 c2.out.length cp2)
          have hs1 := hs0.set1 n1 (.int .i64 0) (.int .i64 0) (.int .i64 0)
          have q0 := blk_cell (o := 0) (v := .slice A2 c2.out.length cp2) hs1.a rfl
          have q1 := blk_cell (o := 0) (v := .int .i64 0) hs1.b rfl
          have q2 := blk_cell (o := 1) (v := .int .i64 0) hs1.b rfl
          have q3 := blk_cell (o := 2) (v := .int .i64 0) hs1.b rfl
          have hrun : ToksM S (.ok c2.out) := HTM.out _ (HRN.out _ (by have h := Runs.fin (S := S) (c := c) HL.out; rw [HQ.out] at h; exact h))
          have t0 := tok_touch HC2.out.out (rowTouch (o := 0) HR2.out.a (.slice A2 c2.out.length cp2)) (by decide)
          have t1 := tok_touch t0 (rowTouch (o := 0) hs0.b (.int .i64 0)) (by decide)
          have t2 := tok_touch t1 (rowTouch (o := 1) (blk_set hs0.b _) (.int .i64 0)) (by decide)
          have t3 := tok_touch t2 (rowTouch (o := 2) (blk_set (blk_set hs0.b _) _) (.int .i64 0)) (by decide)
          have hk0 : Kp w w9 := Below.trans HKR.out (Below.mono HB2.out (by have := HN.out; omega))
          have hw0 := HN.out.1
          have hkf : Kp w ((((w9.setCell ⟨b0, 0, none⟩ (.slice A2 c2.out.length cp2)).setCell ⟨b1, 0, none⟩ (.int .i64 0)).setCell ⟨b1, 1, none⟩ (.int .i64 0)).setCell ⟨b1, 2, none⟩ (.int .i64 0)) :=
            (((hk0.setCell (p := ⟨b0, 0, none⟩) (by show w.heap.size ≤ b0; omega) _).setCell (p := ⟨b1, 0, none⟩) (by show w.heap.size ≤ b1; have := HN.out; omega) _).setCell (p := ⟨b1, 1, none⟩) (by show w.heap.size ≤ b1; have := HN.out; omega) _).setCell (p := ⟨b1, 2, none⟩) (by show w.heap.size ≤ b1; have := HN.out; omega) _
          refine ⟨_, by simp [results, Try.results39, go_sem, q0, q1, q2, q3], .inl ⟨c2.out, .slice A2 c2.out.length cp2, hrun, rfl, OwnL.base_ (by have := HN.out; omega) t3⟩, hkf⟩
        | error er =>
          have HQ := hid hq
          have HER := hid (lineEndM_err hq)
          clear hq bd
          go_wp2_with (go_at_call 63; go_must (refine (lineEnd_any _ cb S c HCS.out).mono ?_); intro e w9 hp; obtain ⟨he, hb2⟩ := CutP.of_err hp HQ.out; unfold stopE at he; subst he; clear hp)
          refine leaves_cons (f := 61) (args := #[.pointer (some ⟨b0, 0, none⟩), .pointer (some ⟨b1, 0, none⟩)]) (by simp) (by simp [go_sem]) ?_
          refine (catch_stop _ b0 b0 b1 _ _ _ _ er (HRA.out.below hb2 (by have := HN.out; omega) (by have := HN.out; omega)) (by have := HN.out; omega) (Nat.le_refl _) (by have := HN.out; omega) []).mono ?_
          rintro e u' w'' ⟨rfl, rfl, hr3, hb3⟩
          have q0 : w''.cell? ⟨b0, 0, none⟩ = some (.slice none 0 0) := blk_cell hr3.a rfl
          have q1 : w''.cell? ⟨b1, 0, none⟩ = some (.int .i64 er.1) := blk_cell hr3.b rfl
          have q2 : w''.cell? ⟨b1, 1, none⟩ = some (.int .i64 er.2.1) := blk_cell hr3.b rfl
          have q3 : w''.cell? ⟨b1, 2, none⟩ = some (.int .i64 er.2.2) := blk_cell hr3.b rfl
          have hkf : Kp w w'' := Below.trans HKR.out (Below.trans (Below.mono hb2 (by have := HN.out; omega)) (by have h := HN.out.1; rw [h]; exact hb3))
          refine ⟨_, by simp [results, Try.results39, go_sem, q0, q1, q2, q3], .inr ⟨er, HTM.out _ (HRN.out _ (by have h := Runs.fin (S := S) (c := c) HL.out; rw [HQ.out] at h; exact h)), by rw [HER.out]; show (1 : Int) ≤ 15; omega, by rw [HER.out]; show (15 : Int) ≤ 20; omega, rfl⟩, hkf⟩
end Go.Proofs.Ytgonekmmbeedeaa
