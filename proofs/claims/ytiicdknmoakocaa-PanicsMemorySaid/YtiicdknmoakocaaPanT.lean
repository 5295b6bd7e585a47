/-
  Package panics: settle. Condition: what is told, and the numbers, stay small.
-/
import Derived.Test.YtiicdknmoakocaaPanS
namespace Go.Proofs.Ytiicdknmoakocaa
open Go.RowKit
set_option linter.unusedVariables false
set_option linter.unusedSimpArgs false

section
variable {p : PlM} {f g : FrameM} {r s : List FrameM}
theorem settle_start (h : p.fr = f :: r) (hd : f.defers ≠ []) : settleN p.fr.length p = startM p f r := by
  rw [h]; show settleN (r.length + 1) p = _
  unfold settleN; rw [h]; dsimp only; rw [if_pos hd]
theorem settle_left_nil (h : p.fr = [f]) (hd : f.defers = []) (hp : f.phase = 1) : settleN p.fr.length p = (p.left f []).over 1 0 := by
  rw [h]; show settleN (0 + 1) p = _
  unfold settleN; rw [h]; dsimp only; rw [if_neg (by simp [hd]), if_pos hp]
theorem settle_rec (h : p.fr = f :: g :: s) (hd : f.defers = []) (hp : f.phase = 1) (hm : f.mark = 2 ∧ lastRec p.pn = true) : settleN p.fr.length p = settleN (g :: s).length { p.left f (g :: s) with pn := dropM p.pn, fr := { g with phase := 1 } :: s } := by
  rw [h]; show settleN ((g :: s).length + 1) p = _
  rw [settleN]; rw [h]; dsimp only; rw [if_neg (by simp [hd]), if_pos hp, if_pos hm]
theorem settle_stop (h : p.fr = f :: g :: s) (hd : f.defers = []) (hp : f.phase = 1) (h0 : f.mark = 0) : settleN p.fr.length p = p.left f (g :: s) := by
  rw [h]; show settleN ((g :: s).length + 1) p = _
  rw [settleN]; rw [h]; dsimp only; rw [if_neg (by simp [hd]), if_pos hp, if_neg (by omega), if_pos h0]
theorem settle_leave (h : p.fr = f :: g :: s) (hd : f.defers = []) (hp : f.phase = 1) (hm : ¬ (f.mark = 2 ∧ lastRec p.pn = true)) (h0 : f.mark ≠ 0) : settleN p.fr.length p = settleN (g :: s).length (p.left f (g :: s)) := by
  rw [h]; show settleN ((g :: s).length + 1) p = _
  rw [settleN]; rw [h]; dsimp only; rw [if_neg (by simp [hd]), if_pos hp, if_neg hm, if_neg h0]
theorem settle_passed_nil (h : p.fr = [f]) (hd : f.defers = []) (hp : f.phase ≠ 1) : settleN p.fr.length p = (p.passed f []).over 2 2 := by
  rw [h]; show settleN (0 + 1) p = _
  unfold settleN; rw [h]; dsimp only; rw [if_neg (by simp [hd]), if_neg hp]
theorem settle_pass (h : p.fr = f :: g :: s) (hd : f.defers = []) (hp : f.phase ≠ 1) : settleN p.fr.length p = settleN (g :: s).length { p.passed f (g :: s) with pn := abortM f p.pn, fr := { g with phase := 2 } :: s } := by
  rw [h]; show settleN ((g :: s).length + 1) p = _
  rw [settleN]; rw [h]; dsimp only; rw [if_neg (by simp [hd]), if_neg hp]
end
def frLen (pb : Nat) (w : World) : Nat := match w.cell? ⟨pb, 0, none⟩ with | some v => lenV_ v | none => 0
theorem pl_fr {w : World} {base pb : Nat} {S : PlM} (h : Player w base pb S) : frLen pb w = S.fr.length := by
  obtain ⟨A, c, h⟩ := h.frLen
  unfold frLen
  rw [h]; rfl
/-- The numbers stay small. -/
structure Sm (p : PlM) : Prop where
  fl : p.fr.length ≤ 30
  tl : p.told.length + 2 * p.fr.length ≤ 800000100
  n0 : 0 ≤ p.next
  n1 : p.next ≤ 800000000
  pl : p.pn.length ≤ 800000000
theorem Sm.step {p p2 : PlM} {f g : FrameM} {s : List FrameM} (h : Sm p) (hf : p.fr = f :: g :: s) (h1 : p2.fr.length = s.length + 1) (h2 : p2.told.length = p.told.length + 1) (h3 : p2.next = p.next) (h4 : p2.pn.length ≤ p.pn.length) : Sm p2 := by
  have e : p.fr.length = s.length + 2 := by rw [hf]; rfl
  have e1 := h.fl; have e2 := h.tl; have e3 := h.n0; have e4 := h.n1; have e5 := h.pl
  exact ⟨by omega, by omega, by omega, by omega, by omega⟩
/-- What the loop's rounds keep. -/
def SetLp (w : World) (base pb : Nat) (R : PlM) (wr : World) : Prop := ∃ p : PlM, Player wr base pb p ∧ Ends p ∧ settleN p.fr.length p = R ∧ Sm p ∧ Below base w wr
theorem FBox.cells {w : World} {b : Nat} {f : FrameM} {d : Value} (h : FBox w b f d) : w.cell? ⟨b, 0, none⟩ = some (.int .i64 f.id) ∧ w.cell? ⟨b, 1, none⟩ = some (.int .i64 f.mark) ∧ w.cell? ⟨b, 2, none⟩ = some (.int .i64 f.panic) ∧ w.cell? ⟨b, 3, none⟩ = some (.int .i64 f.phase) ∧ w.cell? ⟨b, 4, none⟩ = some d := ⟨blk_cell h rfl, blk_cell h rfl, blk_cell h rfl, blk_cell h rfl, blk_cell h rfl⟩
theorem Player.explicit {w : World} {base pb : Nat} {S : PlM} {v : Value} (h : Player w base pb S) (c0 : w.cell? ⟨pb, 0, none⟩ = some v) : ∃ pv tv, Pl w base pb v pv tv S := by
  obtain ⟨fv, pv, tv, hp⟩ := h
  have := hp.c0
  rw [c0] at this
  injection this with this
  subst this
  exact ⟨pv, tv, hp⟩
theorem dropM_len (l : List PanicM) : (dropM l).length ≤ l.length := by
  unfold dropM
  have h : ∀ l : List PanicM, (l.dropWhile (·.abt)).length ≤ l.length := by
    intro l
    induction l with
    | nil => simp
    | cons q r ih => rw [List.dropWhile_cons]; split <;> simp; omega
  have := h l.tail
  rw [List.length_tail] at this; omega
theorem abortM_len (f : FrameM) (l : List PanicM) : (abortM f l).length = l.length := by unfold abortM; split <;> simp
set_option maxRecDepth 20000 in
set_option maxHeartbeats 4000000 in
theorem settle_any (w : World) (base pb : Nat) (S : PlM) (h : Player w base pb S) (hE : Ends S) (hS : Sm S) : Calls Try.prog 62 #[.pointer (some ⟨pb, 0, none⟩)] w fun e' w' => e' = .returned (.tuple #[]) ∧ Player w' base pb (settleM S) ∧ Below base w w' := by
  have HR := hid (show settleN S.fr.length S = settleM S from rfl)
  have H := hid h; have HE := hid hE; have HS := hid hS
  obtain ⟨R, hR⟩ : ∃ R, settleM S = R := ⟨_, rfl⟩
  rw [hR] at HR ⊢
  clear h hE hS hR
  go_enter Try.func62, Try.ntmps62
  go_wp2
  go_loopw [3] (fun _ wr => SetLp w base pb R wr) (fun _ wr => frLen pb wr)
  case atStart => exact ⟨S, H.out, HE.out, HR.out, HS.out, Below.refl _ _⟩
  case round =>
    obtain ⟨p, hp, hE, hR, hS, hb⟩ := hrel
    have HPP := hid hp; have HEE := hid hE; have HRR := hid hR; have HSS := hid hS; have HBB := hid hb
    obtain ⟨f, r, hf⟩ : ∃ f r, p.fr = f :: r := by
      cases hp2 : p.fr with
      | nil => exact absurd hp2 hE.ne
      | cons f r => exact ⟨f, r, rfl⟩
    have HFR := hid hf
    have hrl : r.length ≤ 29 := by have := hS.fl; rw [hf] at this; simp at this; omega
    obtain ⟨g, c, A, cd, c0, hg1, hg2, p0, p1, p2, p3, p4, _, hfo, _, hpop, hrc⟩ := hp.top hf
    have hen : wr.cell? ⟨pb, 4, none⟩ = some (.int .i64 0) := by
      obtain ⟨_, _, _, hpl⟩ := hp
      have := hpl.c4
      rw [hE.en0] at this; exact this
    obtain ⟨pv, tv, hpx⟩ := hp.explicit c0
    have HPX := hid hpx
    have HFO := hid hfo
    have HML := hid (pl_fr hp)
    have P0 := hid p0; have P1 := hid p1; have P2 := hid p2; have P3 := hid p3; have P4 := hid p4
    clear hp hE hR hS hb hf hfo hpop hpx
    go_wp2_with fail
    have hc := top_at wr pb g r.length c c0 (by omega)
    refine hc.mono ?_; clear hc
    rintro e' w1 ⟨rfl, n1, rfl⟩
    have HW := hid ((Kp.refl wr).drewN n1)
    clear p3 p4
    obtain ⟨W1, hW1⟩ : ∃ W1, wr.drewN n1 = W1 := ⟨_, rfl⟩
    rw [hW1] at HW ⊢
    have p0 := cell_kp HW.out hg2 P0.out; have p1 := cell_kp HW.out hg2 P1.out; have p2 := cell_kp HW.out hg2 P2.out; have p3 := cell_kp HW.out hg2 P3.out; have p4 := cell_kp HW.out hg2 P4.out
    clear hW1
    by_cases hd : f.defers = []
    · have hd0 : f.defers.length = 0 := by rw [hd]; rfl
      rw [hd0] at P4 p4
      have HD := hid hd
      clear hd hd0
      go_wp2
      have hk := hid (HW.out.alloc (.cells #[.int .i64 f.id, .int .i64 f.mark, .int .i64 f.panic, .int .i64 f.phase, .slice A 0 cd] 44))
      have HB := hid (show FBox (W1.alloc (.cells #[.int .i64 f.id, .int .i64 f.mark, .int .i64 f.panic, .int .i64 f.phase, .slice A 0 cd] 44)) W1.heap.size f (.slice A 0 cd) from blk_new _ _)
      have hbx : wr.heap.size ≤ W1.heap.size := HW.out.le
      have hpb := HPX.out.lt
      have hpge := HPX.out.ge
      obtain ⟨bx, hbxe⟩ : ∃ bx, W1.heap.size = bx := ⟨_, rfl⟩
      rw [hbxe] at HB hbx ⊢
      obtain ⟨W2, hW2⟩ : ∃ W2, W1.alloc (.cells #[.int .i64 f.id, .int .i64 f.mark, .int .i64 f.panic, .int .i64 f.phase, .slice A 0 cd] 44) = W2 := ⟨_, rfl⟩
      rw [hW2] at hk HB ⊢
      clear hW2 hbxe p0 p1 p2 p3 p4
      refine wp_region_last 17 [[], [], [1], [2], [3], [4], [], [6], [7], [8], [9], [10], [11], [5, 12], [0], [14], [15], [13, 16]] (fun u => Kp W2 u)
        [fun (y : Value) (u : World) => y = (.pointer (some ⟨pb, 0, none⟩) : Value),
         fun (y : Value) (u : World) => y = (.pointer (some ⟨pb, 0, none⟩) : Value),
         fun (y : Value) (u : World) => y = (.pointer (some ⟨pb, 0, none⟩) : Value),
         fun (y : Value) (u : World) => y = (.pointer (some ⟨pb, 0, none⟩) : Value),
         fun (y : Value) (u : World) => y = (.pointer (some ⟨pb, 0, none⟩) : Value),
         fun (y : Value) (u : World) => y = (.slice (some ⟨g, 0, none⟩) (r.length + 1) c : Value),
         fun (y : Value) (u : World) => y = (.pointer (some ⟨pb, 0, none⟩) : Value),
         fun (y : Value) (u : World) => y = (.pointer (some ⟨pb, 0, none⟩) : Value),
         fun (y : Value) (u : World) => y = (.pointer (some ⟨pb, 0, none⟩) : Value),
         fun (y : Value) (u : World) => y = (.pointer (some ⟨pb, 0, none⟩) : Value),
         fun (y : Value) (u : World) => y = (.slice (some ⟨g, 0, none⟩) (r.length + 1) c : Value),
         fun (y : Value) (u : World) => y = (.int .i64 ((r.length : Int) + 1) : Value),
         fun (y : Value) (u : World) => y = (.int .i64 (r.length : Int) : Value),
         fun (y : Value) (u : World) => y = (.slice (some ⟨g, 0, none⟩) r.length c : Value),
         fun (y : Value) (u : World) => y = (.pointer (some ⟨pb, 0, none⟩) : Value),
         fun (y : Value) (u : World) => y = (.pointer (some ⟨pb, 0, none⟩) : Value),
         fun (y : Value) (u : World) => y = (.pointer (some ⟨pb, 0, none⟩) : Value)]
        (by kernel_rfl) (by kernel_rfl) (by kernel_rfl) (by kernel_rfl) (by kernel_rfl) (by kernel_rfl) ((Kp.refl _).drew) (fun _ _ hk h => h.trans hk) ⟨fun _ _ _ _ h => h, fun _ _ _ _ h => h, fun _ _ _ _ h => h, fun _ _ _ _ h => h, fun _ _ _ _ h => h, fun _ _ _ _ h => h, fun _ _ _ _ h => h, fun _ _ _ _ h => h, fun _ _ _ _ h => h, fun _ _ _ _ h => h, fun _ _ _ _ h => h, fun _ _ _ _ h => h, fun _ _ _ _ h => h, fun _ _ _ _ h => h, fun _ _ _ _ h => h, fun _ _ _ _ h => h, fun _ _ _ _ h => h, trivial⟩ ⟨?sb0, ?sb1, ?sb2, ?sb3, ?sb4, ?sb5, ?sb6, ?sb7, ?sb8, ?sb9, ?sb10, ?sb11, ?sb12, ?sb13, ?sb14, ?sb15, ?sb16, trivial⟩ ⟨?hEb, trivial⟩
      case sb0 =>
        intro x u hg hd K hK
        clear hd
        refine ⟨?_⟩
        simp only [putsFrom, Act.put, List.setIfInBounds_toArray, List.set_cons_zero, List.set_cons_succ, Nat.reduceAdd] at hK ⊢
        go_simp
        exact hK.out _ _ (Kp.refl _) rfl
      case sb1 =>
        intro x u hg hd K hK
        clear hd
        refine ⟨?_⟩
        simp only [putsFrom, Act.put, List.setIfInBounds_toArray, List.set_cons_zero, List.set_cons_succ, Nat.reduceAdd] at hK ⊢
        go_simp
        exact hK.out _ _ (Kp.refl _) rfl
      case sb2 =>
        intro x u hg hd K hK
        have d1 : (x 1) = .pointer (some ⟨pb, 0, none⟩) := And.left hd
        clear hd
        refine ⟨?_⟩
        simp only [putsFrom, Act.put, List.setIfInBounds_toArray, List.set_cons_zero, List.set_cons_succ, Nat.reduceAdd, d1] at hK ⊢
        go_simp
        exact hK.out _ _ (Kp.refl _) rfl
      case sb3 =>
        intro x u hg hd K hK
        have d2 : (x 2) = .pointer (some ⟨pb, 0, none⟩) := And.left hd
        clear hd
        refine ⟨?_⟩
        simp only [putsFrom, Act.put, List.setIfInBounds_toArray, List.set_cons_zero, List.set_cons_succ, Nat.reduceAdd, d2] at hK ⊢
        go_simp
        exact hK.out _ _ (Kp.refl _) rfl
      case sb4 =>
        intro x u hg hd K hK
        have d3 : (x 3) = .pointer (some ⟨pb, 0, none⟩) := And.left hd
        clear hd
        refine ⟨?_⟩
        simp only [putsFrom, Act.put, List.setIfInBounds_toArray, List.set_cons_zero, List.set_cons_succ, Nat.reduceAdd, d3] at hK ⊢
        go_simp
        exact hK.out _ _ (Kp.refl _) rfl
      case sb5 =>
        intro x u hg hd K hK
        have d4 : (x 4) = .pointer (some ⟨pb, 0, none⟩) := And.left hd
        clear hd
        have z := (HPX.out.kp (hk.out.trans hg)).c0
        refine ⟨?_⟩
        simp only [putsFrom, Act.put, List.setIfInBounds_toArray, List.set_cons_zero, List.set_cons_succ, Nat.reduceAdd, d4] at hK ⊢
        go_simp
        exact hK.out _ _ (Kp.refl _) rfl
      case sb6 =>
        intro x u hg hd K hK
        clear hd
        refine ⟨?_⟩
        simp only [putsFrom, Act.put, List.setIfInBounds_toArray, List.set_cons_zero, List.set_cons_succ, Nat.reduceAdd] at hK ⊢
        go_simp
        exact hK.out _ _ (Kp.refl _) rfl
      case sb7 =>
        intro x u hg hd K hK
        have d6 : (x 6) = .pointer (some ⟨pb, 0, none⟩) := And.left hd
        clear hd
        refine ⟨?_⟩
        simp only [putsFrom, Act.put, List.setIfInBounds_toArray, List.set_cons_zero, List.set_cons_succ, Nat.reduceAdd, d6] at hK ⊢
        go_simp
        exact hK.out _ _ (Kp.refl _) rfl
      case sb8 =>
        intro x u hg hd K hK
        have d7 : (x 7) = .pointer (some ⟨pb, 0, none⟩) := And.left hd
        clear hd
        refine ⟨?_⟩
        simp only [putsFrom, Act.put, List.setIfInBounds_toArray, List.set_cons_zero, List.set_cons_succ, Nat.reduceAdd, d7] at hK ⊢
        go_simp
        exact hK.out _ _ (Kp.refl _) rfl
      case sb9 =>
        intro x u hg hd K hK
        have d8 : (x 8) = .pointer (some ⟨pb, 0, none⟩) := And.left hd
        clear hd
        refine ⟨?_⟩
        simp only [putsFrom, Act.put, List.setIfInBounds_toArray, List.set_cons_zero, List.set_cons_succ, Nat.reduceAdd, d8] at hK ⊢
        go_simp
        exact hK.out _ _ (Kp.refl _) rfl
      case sb10 =>
        intro x u hg hd K hK
        have d9 : (x 9) = .pointer (some ⟨pb, 0, none⟩) := And.left hd
        clear hd
        have z := (HPX.out.kp (hk.out.trans hg)).c0
        refine ⟨?_⟩
        simp only [putsFrom, Act.put, List.setIfInBounds_toArray, List.set_cons_zero, List.set_cons_succ, Nat.reduceAdd, d9] at hK ⊢
        go_simp
        exact hK.out _ _ (Kp.refl _) rfl
      case sb11 =>
        intro x u hg hd K hK
        have d10 : (x 10) = .slice (some ⟨g, 0, none⟩) (r.length + 1) c := And.left hd
        clear hd
        refine ⟨?_⟩
        simp only [putsFrom, Act.put, List.setIfInBounds_toArray, List.set_cons_zero, List.set_cons_succ, Nat.reduceAdd, d10] at hK ⊢
        go_simp
        exact hK.out _ _ (Kp.refl _) rfl
      case sb12 =>
        intro x u hg hd K hK
        have d11 : (x 11) = .int .i64 ((r.length : Int) + 1) := And.left hd
        clear hd
        have w1 : IntKind.i64.wrap ((r.length : Int) + 1 - 1) = (r.length : Int) := by rw [IntWalk.i64_in _ (by omega)]; omega
        have w2 : IntKind.i64.wrap (r.length : Int) = (r.length : Int) := IntWalk.i64_in _ (by omega)
        refine ⟨?_⟩
        simp only [putsFrom, Act.put, List.setIfInBounds_toArray, List.set_cons_zero, List.set_cons_succ, Nat.reduceAdd, d11] at hK ⊢
        go_simp
        exact hK.out _ _ (Kp.refl _) rfl
      case sb13 =>
        intro x u hg hd K hK
        have d5 : (x 5) = .slice (some ⟨g, 0, none⟩) (r.length + 1) c := And.left hd
        have d12 : (x 12) = .int .i64 (r.length : Int) := And.left (And.right hd)
        clear hd
        have w1 : r.length ≤ c := by omega
        have w2 : (r.length : Int) ≤ (c : Int) := by omega
        refine ⟨?_⟩
        simp only [putsFrom, Act.put, List.setIfInBounds_toArray, List.set_cons_zero, List.set_cons_succ, Nat.reduceAdd, d5, d12] at hK ⊢
        go_simp
        exact hK.out _ _ (Kp.refl _) rfl
      case sb14 =>
        intro x u hg hd K hK
        have d0 : (x 0) = .pointer (some ⟨pb, 0, none⟩) := And.left hd
        clear hd
        refine ⟨?_⟩
        simp only [putsFrom, Act.put, List.setIfInBounds_toArray, List.set_cons_zero, List.set_cons_succ, Nat.reduceAdd, d0] at hK ⊢
        go_simp
        exact hK.out _ _ (Kp.refl _) rfl
      case sb15 =>
        intro x u hg hd K hK
        have d14 : (x 14) = .pointer (some ⟨pb, 0, none⟩) := And.left hd
        clear hd
        refine ⟨?_⟩
        simp only [putsFrom, Act.put, List.setIfInBounds_toArray, List.set_cons_zero, List.set_cons_succ, Nat.reduceAdd, d14] at hK ⊢
        go_simp
        exact hK.out _ _ (Kp.refl _) rfl
      case sb16 =>
        intro x u hg hd K hK
        have d15 : (x 15) = .pointer (some ⟨pb, 0, none⟩) := And.left hd
        clear hd
        refine ⟨?_⟩
        simp only [putsFrom, Act.put, List.setIfInBounds_toArray, List.set_cons_zero, List.set_cons_succ, Nat.reduceAdd, d15] at hK ⊢
        go_simp
        exact hK.out _ _ (Kp.refl _) rfl
      intro x u hg he K hK
      have d0 : (x 0) = .pointer (some ⟨pb, 0, none⟩) := And.left he
      have d1 : (x 1) = .pointer (some ⟨pb, 0, none⟩) := And.left (And.right he)
      have d2 : (x 2) = .pointer (some ⟨pb, 0, none⟩) := And.left (And.right (And.right he))
      have d3 : (x 3) = .pointer (some ⟨pb, 0, none⟩) := And.left (And.right (And.right (And.right he)))
      have d4 : (x 4) = .pointer (some ⟨pb, 0, none⟩) := And.left (And.right (And.right (And.right (And.right he))))
      have d5 : (x 5) = .slice (some ⟨g, 0, none⟩) (r.length + 1) c := And.left (And.right (And.right (And.right (And.right (And.right he)))))
      have d6 : (x 6) = .pointer (some ⟨pb, 0, none⟩) := And.left (And.right (And.right (And.right (And.right (And.right (And.right he))))))
      have d7 : (x 7) = .pointer (some ⟨pb, 0, none⟩) := And.left (And.right (And.right (And.right (And.right (And.right (And.right (And.right he)))))))
      have d8 : (x 8) = .pointer (some ⟨pb, 0, none⟩) := And.left (And.right (And.right (And.right (And.right (And.right (And.right (And.right (And.right he))))))))
      have d9 : (x 9) = .pointer (some ⟨pb, 0, none⟩) := And.left (And.right (And.right (And.right (And.right (And.right (And.right (And.right (And.right (And.right he)))))))))
      have d10 : (x 10) = .slice (some ⟨g, 0, none⟩) (r.length + 1) c := And.left (And.right (And.right (And.right (And.right (And.right (And.right (And.right (And.right (And.right (And.right he))))))))))
      have d11 : (x 11) = .int .i64 ((r.length : Int) + 1) := And.left (And.right (And.right (And.right (And.right (And.right (And.right (And.right (And.right (And.right (And.right (And.right he)))))))))))
      have d12 : (x 12) = .int .i64 (r.length : Int) := And.left (And.right (And.right (And.right (And.right (And.right (And.right (And.right (And.right (And.right (And.right (And.right (And.right he))))))))))))
      have d13 : (x 13) = .slice (some ⟨g, 0, none⟩) r.length c := And.left (And.right (And.right (And.right (And.right (And.right (And.right (And.right (And.right (And.right (And.right (And.right (And.right (And.right he)))))))))))))
      have d14 : (x 14) = .pointer (some ⟨pb, 0, none⟩) := And.left (And.right (And.right (And.right (And.right (And.right (And.right (And.right (And.right (And.right (And.right (And.right (And.right (And.right (And.right he))))))))))))))
      have d15 : (x 15) = .pointer (some ⟨pb, 0, none⟩) := And.left (And.right (And.right (And.right (And.right (And.right (And.right (And.right (And.right (And.right (And.right (And.right (And.right (And.right (And.right (And.right he)))))))))))))))
      have d16 : (x 16) = .pointer (some ⟨pb, 0, none⟩) := And.left (And.right (And.right (And.right (And.right (And.right (And.right (And.right (And.right (And.right (And.right (And.right (And.right (And.right (And.right (And.right (And.right he))))))))))))))))
      clear he
      have hpu := HPX.out.kp (hk.out.trans hg)
      have z := hpu.c0
      have zf := hpu.fz 0
      have HG := hid hg
      have HPU := hid (hpu.frames_ (Touch.refl _ _) (FrRow.pop (by have := hpu.fr; rw [HFR.out] at this; exact this)))
      clear hpu
      refine ⟨?_⟩
      simp only [putsFrom, Act.put, List.setIfInBounds_toArray, List.set_cons_zero, List.set_cons_succ, Nat.reduceAdd, d0, d1, d2, d3, d4, d5, d6, d7, d8, d9, d10, d11, d12, d13, d14, d15, d16] at hK ⊢
      go_simp
      refine hK.out undef _ ⟨?_⟩
      clear hK
      clear d0 d1 d2 d3 d4 d5 d6 d7 d8 d9 d10 d11 d12 d13 d14 d15 d16
      clear z zf
      have HX3 := hid ((HB.out.kp HG.out).far (o := 0) (g := pb) (by omega) (.slice (some ⟨g, 0, none⟩) r.length c))
      have HB3 := hid ((Below.trans HBB.out (Below.mono (hk.out.trans HG.out) (Nat.le_trans hpge (Nat.le_of_lt hpb)))).setCell (p := ⟨pb, 0, none⟩) hpge (.slice (some ⟨g, 0, none⟩) r.length c))
      have HP3 := hid (show Player (u.setCell ⟨pb, 0, none⟩ (.slice (some ⟨g, 0, none⟩) r.length c)) base pb { p with fr := r } from ⟨_, _, _, HPU.out⟩)
      generalize (u.setCell ⟨pb, 0, none⟩ (.slice (some ⟨g, 0, none⟩) r.length c)) = W3 at HX3 HB3 HP3 ⊢
      clear HPU
      obtain ⟨q0, q1, q2, q3, q4⟩ := HX3.out.cells
      have htl : p.told.length ≤ 900000000 := by have := HSS.out.tl; omega
      by_cases hph : f.phase = 1
      · have t1 : (f.phase == 1) = true := by simp [hph]
        have HPH := hid hph
        clear hph
        cases r with
        | nil =>
          go_wp2_with fail
          have hc := left_nil W3 base pb { p with fr := [] } f A 0 cd HP3.out HFO.out rfl htl
          refine hc.mono ?_; clear hc
          rintro e' w4 ⟨rfl, hp4, hb4⟩
          have HP4 := hid hp4; have HB4 := hid (Below.trans HB3.out hb4)
          clear hp4 hb4 q0 q1 q2 q3 q4
          go_wp2
          (try simp only [Exit.inBlock, Exit.then])
          refine bodyPost_ret (results_none rfl _ _ _) rfl ?_
          exact ⟨rfl, by rw [← HRR.out, settle_left_nil HFR.out HD.out HPH.out]; exact HP4.out, HB4.out⟩
        | cons g2 s =>
          have hs : s.length ≤ 1000 := by simp at hrl; omega
          by_cases hrec : f.mark = 2 ∧ lastRec p.pn = true
          · obtain ⟨q, t, hq⟩ : ∃ q t, p.pn = q :: t := by
              cases hq : p.pn with
              | nil => have := hrec.2; rw [hq] at this; cases this
              | cons q t => exact ⟨q, t, rfl⟩
            have hrq : q.rcd = true := by have := hrec.2; rw [hq] at this; exact this
            have HREC := hid hrec; have HQ := hid hq; have HRQ := hid hrq
            have htp : t.length ≤ 900000000 := by have := HSS.out.pl; rw [hq] at this; simp at this; omega
            clear hrec hq hrq
            go_wp2_with fail
            have hc := left_rec W3 base pb { p with fr := g2 :: s } f g2 s q t A 0 cd HP3.out HFO.out rfl HREC.out.1 HQ.out HRQ.out htl hs htp
            refine hc.mono ?_; clear hc
            rintro e' w4 ⟨rfl, hp4, hb4⟩
            have HP4 := hid hp4; have HB4 := hid (Below.trans HB3.out hb4)
            clear hp4 hb4 q0 q1 q2 q3 q4
            go_wp2
            go_roundw
            case rel => exact ⟨{ p.left f (g2 :: s) with pn := dropM p.pn, fr := { g2 with phase := 1 } :: s }, HP4.out, HEE.out.drop_ HFR.out HPH.out HREC.out.1, by rw [← HRR.out, settle_rec HFR.out HD.out HPH.out HREC.out]; rfl, HSS.out.step HFR.out rfl (by show (p.told ++ [_]).length = _; simp) rfl (dropM_len _), HB4.out⟩
            case measure =>
              rw [pl_fr HP4.out, HML.out, HFR.out]
              show s.length + 1 < s.length + 1 + 1
              omega
          · have HREC := hid hrec
            clear hrec
            by_cases hm2 : f.mark = 2
            · obtain ⟨q, t, hq⟩ : ∃ q t, p.pn = q :: t := by
                rcases HEE.out.ph with h1 | h1
                · cases hq : p.pn with
                  | nil =>
                    have h2 := h1.2.1
                    rw [HFR.out, marks_cons hm2, hq] at h2
                    simp [liveOf] at h2
                  | cons q t => exact ⟨q, t, rfl⟩
                · obtain ⟨q, t, hq, _⟩ := h1.2
                  exact ⟨q, t, hq⟩
              have hrq : q.rcd = false := by
                cases hqr : q.rcd with
                | false => rfl
                | true => exact absurd ⟨hm2, by rw [hq]; exact hqr⟩ HREC.out
              have h0 : f.mark ≠ 0 := by omega
              have HQ := hid hq; have HRQ := hid hrq; have HM2 := hid hm2; have HM0 := hid h0
              have hbm : (f.mark != 0) = true := by simp [h0]
              have htp : t.length ≤ 900000000 := by have := HSS.out.pl; rw [hq] at this; simp at this; omega
              clear hq hrq hm2 h0
              go_wp2_with fail
              have hc := left_go2 W3 base pb { p with fr := g2 :: s } f g2 s q t A 0 cd HP3.out HFO.out rfl HM2.out HQ.out HRQ.out htp htl hs
              refine hc.mono ?_; clear hc
              rintro e' w4 ⟨rfl, hp4, hb4⟩
              have HP4 := hid hp4; have HB4 := hid (Below.trans HB3.out hb4)
              clear hp4 hb4 q0 q1 q2 q3 q4
              go_wp2
              go_roundw
              case rel => exact ⟨p.left f (g2 :: s), HP4.out, HEE.out.leave HFR.out HPH.out HREC.out HM0.out, by rw [← HRR.out, settle_leave HFR.out HD.out HPH.out HREC.out HM0.out]; rfl, HSS.out.step HFR.out rfl (by show (p.told ++ [_]).length = _; simp) rfl (Nat.le_refl _), HB4.out⟩
              case measure =>
                rw [pl_fr HP4.out, HML.out, HFR.out]
                show s.length + 1 < s.length + 1 + 1
                omega
            · have HM2 := hid hm2
              clear hm2
              by_cases h0 : f.mark = 0
              · have HM0 := hid h0
                have hbm : (f.mark != 0) = false := by simp [h0]
                clear h0
                go_wp2_with fail
                have hc := left_go0 W3 base pb { p with fr := g2 :: s } f g2 s A 0 cd HP3.out HFO.out rfl HM2.out htl hs
                refine hc.mono ?_; clear hc
                rintro e' w4 ⟨rfl, hp4, hb4⟩
                have HP4 := hid hp4; have HB4 := hid (Below.trans HB3.out hb4)
                clear hp4 hb4 q0 q1 q2 q3 q4
                go_wp2
                (try simp only [Exit.inBlock, Exit.then])
                refine bodyPost_ret (results_none rfl _ _ _) rfl ?_
                exact ⟨rfl, by rw [← HRR.out, settle_stop HFR.out HD.out HPH.out HM0.out]; exact HP4.out, HB4.out⟩
              · have HM0 := hid h0
                have hbm : (f.mark != 0) = true := by simp [h0]
                clear h0
                go_wp2_with fail
                have hc := left_go0 W3 base pb { p with fr := g2 :: s } f g2 s A 0 cd HP3.out HFO.out rfl HM2.out htl hs
                refine hc.mono ?_; clear hc
                rintro e' w4 ⟨rfl, hp4, hb4⟩
                have HP4 := hid hp4; have HB4 := hid (Below.trans HB3.out hb4)
                clear hp4 hb4 q0 q1 q2 q3 q4
                go_wp2
                go_roundw
                case rel => exact ⟨p.left f (g2 :: s), HP4.out, HEE.out.leave HFR.out HPH.out HREC.out HM0.out, by rw [← HRR.out, settle_leave HFR.out HD.out HPH.out HREC.out HM0.out]; rfl, HSS.out.step HFR.out rfl (by show (p.told ++ [_]).length = _; simp) rfl (Nat.le_refl _), HB4.out⟩
                case measure =>
                  rw [pl_fr HP4.out, HML.out, HFR.out]
                  show s.length + 1 < s.length + 1 + 1
                  omega
      · have t1 : (f.phase == 1) = false := by simp [hph]
        have HPH := hid hph
        clear hph
        have hpp : p.pn.length ≤ 900000000 := by have := HSS.out.pl; omega
        cases r with
        | nil =>
          go_wp2_with fail
          have hc := passed_nil W3 base pb { p with fr := [] } f A 0 cd HP3.out HFO.out rfl htl
          refine hc.mono ?_; clear hc
          rintro e' w4 ⟨rfl, hp4, hb4⟩
          have HP4 := hid hp4; have HB4 := hid (Below.trans HB3.out hb4)
          clear hp4 hb4 q0 q1 q2 q3 q4
          go_wp2
          (try simp only [Exit.inBlock, Exit.then])
          refine bodyPost_ret (results_none rfl _ _ _) rfl ?_
          exact ⟨rfl, by rw [← HRR.out, settle_passed_nil HFR.out HD.out HPH.out]; exact HP4.out, HB4.out⟩
        | cons g2 s =>
          have hs : s.length ≤ 1000 := by simp at hrl; omega
          go_wp2_with fail
          have hc := passed_any W3 base pb { p with fr := g2 :: s } f g2 s A 0 cd HP3.out HFO.out rfl htl hs hpp
          refine hc.mono ?_; clear hc
          rintro e' w4 ⟨rfl, hp4, hb4⟩
          have HP4 := hid hp4; have HB4 := hid (Below.trans HB3.out hb4)
          clear hp4 hb4 q0 q1 q2 q3 q4
          go_wp2
          go_roundw
          case rel => exact ⟨{ p.passed f (g2 :: s) with pn := abortM f p.pn, fr := { g2 with phase := 2 } :: s }, HP4.out, HEE.out.pass HFR.out HPH.out, by rw [← HRR.out, settle_pass HFR.out HD.out HPH.out]; rfl, HSS.out.step HFR.out rfl (by show (p.told ++ [_]).length = _; simp) rfl (by show (abortM f p.pn).length ≤ _; rw [abortM_len]; exact Nat.le_refl _), HB4.out⟩
          case measure =>
            rw [pl_fr HP4.out, HML.out, HFR.out]
            show s.length + 1 < s.length + 1 + 1
            omega
    · have hlen : 0 < f.defers.length := by
        cases hq : f.defers with
        | nil => exact absurd hq hd
        | cons a b => simp
      have HD := hid hd
      clear hd
      go_wp2_with fail
      have hk := hid (HW.out.alloc (.cells #[.int .i64 f.id, .int .i64 f.mark, .int .i64 f.panic, .int .i64 f.phase, .slice A f.defers.length cd] 44))
      have hc := start_any _ base pb p f r (HPP.out.kp hk.out) HFR.out HD.out (fun hp2 hn => by
        rcases HEE.out.ph with h1 | h1
        · have h2 := h1.1
          rw [HFR.out] at h2
          have h3 : f.phase = 1 := h2
          omega
        · obtain ⟨q, t, hq, _⟩ := h1.2
          rw [hn] at hq; cases hq) HSS.out.fl (by have := HSS.out.tl; omega) HSS.out.n0 (by have := HSS.out.n1; omega) (by have := HSS.out.pl; omega)
      refine hc.mono ?_; clear hc
      rintro e' w2 ⟨rfl, hp2, hb2⟩
      have HP2 := hid hp2; have HB2 := hid (Below.trans HBB.out (Below.trans (Below.mono hk.out (Nat.le_trans hg1 (Nat.le_of_lt hg2))) hb2))
      clear hp2 hb2 hlen
      go_wp2
      (try simp only [Exit.inBlock, Exit.then])
      refine bodyPost_ret (results_none rfl _ _ _) rfl ?_
      exact ⟨rfl, by rw [← HRR.out, settle_start HFR.out HD.out]; exact HP2.out, HB2.out⟩
end Go.Proofs.Ytiicdknmoakocaa
