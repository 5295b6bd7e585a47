/-
  The law DefersStack answers true for all lists of calls and each call. No condition.
-/
import Derived.SizedLaws
import Derived.Test.YtmcidhjcimjeiaaRows
import Derived.Test.YtmcidhjcimjeiaaDefers
import Derived.Test.YtmcidhjcimjeiaaRegion
import Derived.Deep.DeepCutAuto
import Derived.Deep.DrawnRows
namespace Go.Proofs.Ytmcidhjcimjeiaa.defersStack
open Go.ChangeShapes Go.WideShapes Go.ChangeAt Go.RowKit
open Go.ChangeMaps (open_string shut_string)
set_option linter.unusedVariables false

theorem own : ownKnob Try.prog.godebug = none := by kernel_rfl
theorem laidOut : laidOutB Try.prog = true := by kernel_rfl


attribute [local go_sem ↓] Go.wp_at_zero Go.wp_at_succ
theorem calls_s {w w' : World} {mm : CallM} {la v : Value} {l : List CallM} (H : HeldC w mm la w') (h : Hid (RdCalls w v l)) (hl : (l.length + 1) * 40 ≤ 140737488355328) : Calls Try.prog 16 #[v] w' fun e w2 => (∃ v', e = .returned v' ∧ RdCalls w2 v' l) ∧ Kp w' w2 :=
  (calls_any v l w' (h.out.kp H.2.2.2.1) hl).mono fun e w2 ⟨⟨v', h1, h2⟩, h3⟩ => ⟨⟨v', h1, h2.rd⟩, h3⟩
theorem rd_lit {w : World} {m : CallM} {la : Value} (h : RdCall w (.agg #[.int .i64 m.site, .int .i64 m.fn, la]) m) : RdCalls (w.alloc (.cells #[.int .i64 m.site, .int .i64 m.fn, la] 25)) (.slice (some ⟨w.heap.size, 0, none⟩) 1 1) [m] := by
  obtain ⟨la', e, o0, o1, o2, o3⟩ := h
  cases e
  refine ⟨_, _, rfl, by simp, fun i a hi => ?_⟩
  have hi0 : i = 0 := by
    rcases Nat.eq_zero_or_pos i with h | h
    · exact h
    · rw [List.getElem?_eq_none (by simp; omega)] at hi; cases hi
  subst hi0
  simp only [List.getElem?_cons_zero, Option.some.injEq] at hi
  subst hi
  refine ⟨w.heap.size, 0, [.int .i64 m.site, .int .i64 m.fn, la], rfl, by simp, ⟨la, rfl, o0, o1, o2.kp ((Kp.refl _).alloc _), o3⟩, rfl, fun j hj => ?_⟩
  rw [World.cell?_alloc_new]; simp
/-- The call of calls on the literal, and its first element behind it. -/
def LitPost (m : CallM) (w : World) (e : Ending) (w2 : World) : Prop :=
  (∃ b off la c, e = .returned (.slice (some ⟨b, off, none⟩) 1 c) ∧ b < w2.heap.size ∧ w2.cell? ⟨b, off, none⟩ = some (.int .i64 m.site) ∧ w2.cell? ⟨b, off + 1, none⟩ = some (.int .i64 m.fn) ∧ w2.cell? ⟨b, off + 2, none⟩ = some la ∧ RdCall w2 (.agg #[.int .i64 m.site, .int .i64 m.fn, la]) m) ∧ Kp w w2
theorem calls_lit {w w0 w' : World} {mm m : CallM} {la la' : Value} {g : Nat} (hg : w0.heap.size = g) (H : HeldC w mm la' (w0.alloc (.cells #[.int .i64 m.site, .int .i64 m.fn, la] 25))) (h : Hid (RdCall w (.agg #[.int .i64 m.site, .int .i64 m.fn, la]) m)) (hw : Kp w w0) (hk : Kp (w0.alloc (.cells #[.int .i64 m.site, .int .i64 m.fn, la] 25)) w') :
    Calls Try.prog 16 #[.slice (some ⟨g, 0, none⟩) 1 1] w' (LitPost m w') := by
  subst hg
  refine (calls_any _ [m] w' ((rd_lit (h.out.kp hw)).kp hk) (by simp)).mono fun e w2 ⟨⟨v', h1, h2⟩, h3⟩ => ⟨?_, h3⟩
  have hr := h2.rd
  obtain ⟨A, c, rfl, _⟩ := hr.form
  obtain ⟨b, off, rfl, hb, lb, q0, q1, q2, o0, o1, o2, o3⟩ := at_call (i := 0) hr rfl
  simp only [Nat.zero_mul, Nat.add_zero] at q0 q1 q2
  exact ⟨b, off, lb, c, h1, hb, q0, q1, q2, lb, rfl, o0, o1, o2, o3⟩
theorem len2 {l : List CallM} {m : CallM} (h : l.length * 40 ≤ 140737488351232) : ((l ++ [m]).length + 1) * 40 ≤ 140737488355328 := by
  have e : (l ++ [m]).length = l.length + 1 := by simp
  omega
set_option maxRecDepth 20000 in
set_option maxHeartbeats 400000 in
theorem walk (v0 : Value) (a0 : List CallM) (v1 : Value) (a1 : CallM) (w : World) (w0 : RdCallsB w v0 a0) (w1 : RdCall w v1 a1) :
    Calls Try.prog 3 #[v0, v1] w fun e w' => e = .returned (.bool true) ∧ Kp w w' := by
  obtain ⟨R0, b0⟩ := w0
  have R0' : RdCalls w v0 a0 := R0
  have HL := hid R0'; have HC := hid w1
  have hl : (a0.length + 1) * 40 ≤ 140737488355328 := by omega
  have hl2 : ((a0 ++ [a1]).length + 1) * 40 ≤ 140737488355328 := len2 b0
  have hl3 : a0.length * 40 ≤ 140737488355328 := by omega
  obtain ⟨A, c, rfl, hlc⟩ := R0.form
  obtain ⟨la, rfl, o0, o1, o2, o3⟩ := w1
  obtain ⟨A2, c2, rfl⟩ := o2.form
  clear R0 o2 R0'
  go_enter Try.func3, Try.ntmps3
  go_wp2_with fail
  have F := HeldC.mk_ w a1 (.slice A2 a1.args.length c2)
  generalize (w.alloc (.cells #[.int .i64 a1.site, .int .i64 a1.fn, .slice A2 a1.args.length c2] 25)) = W0 at F ⊢
  refine wp_region_kp (fun i => [undef, undef, undef, undef, undef, undef, undef, undef, undef].getD i undef) [[], [0], [], [2], [3], [4], [5], [1, 6], [7]] (HeldC w a1 (.slice A2 a1.args.length c2))
    [fun y u => y = .slice A a0.length c,
     fun y u => RdCalls u y a0,
     fun y u => y = .agg #[.int .i64 a1.site, .int .i64 a1.fn, .slice A2 a1.args.length c2],
     fun y u => RdCalls u y [a1],
     fun y u => RdCalls u y [a1],
     fun y u => PtCall u y a1,
     fun y u => RdCall u y a1,
     fun y u => RdCalls u y (a0 ++ [a1]),
     fun y u => RdCalls u y (a0 ++ [a1])]
    (by kernel_rfl) (by kernel_rfl) (by kernel_rfl) (by kernel_rfl) (by kernel_rfl) (F.kp (Kp.refl _).drew) (fun _ _ hk h => h.kp hk) ⟨fun _ _ _ _ h => h, fun _ _ _ hk h => h.kp hk, fun _ _ _ _ h => h, fun _ _ _ hk h => h.kp hk, fun _ _ _ hk h => h.kp hk, fun _ _ _ hk h => h.kp hk, fun _ _ _ hk h => h.kp hk, fun _ _ _ hk h => h.kp hk, fun _ _ _ hk h => h.kp hk, trivial⟩ ⟨?s0, ?s1, ?s2, ?s3, ?s4, ?s5, ?s6, ?s7, ?s8, trivial⟩ ?hE
  case s0 =>
    intro x u hg hd K hK
    clear hd
    refine ⟨?_⟩
    simp only [putsFrom, Act.put, List.setIfInBounds_toArray, List.set_cons_zero, List.set_cons_succ, Nat.reduceAdd] at hK ⊢
    go_simp
    exact hK.out _ _ (Kp.refl _) rfl
  case s1 =>
    intro x u hg hd K hK
    have d0 : (x 0) = .slice A a0.length c := And.left hd
    clear hd
    refine ⟨?_⟩
    simp only [putsFrom, Act.put, List.setIfInBounds_toArray, List.set_cons_zero, List.set_cons_succ, Nat.reduceAdd, d0] at hK ⊢
    go_simp
    go_at_call 16
    have hc := calls_s hg HL hl
    refine hc.mono ?_
    clear hc
    rintro e u' ⟨⟨v', rfl, h⟩, hk⟩
    dsimp only
    exact hK.out _ _ hk h
  case s2 =>
    intro x u hg hd K hK
    clear hd
    refine ⟨?_⟩
    simp only [putsFrom, Act.put, List.setIfInBounds_toArray, List.set_cons_zero, List.set_cons_succ, Nat.reduceAdd] at hK ⊢
    go_simp
    exact hK.out _ _ (Kp.refl _) rfl
  case s3 =>
    intro x u hg hd K hK
    have d2 : (x 2) = .agg #[.int .i64 a1.site, .int .i64 a1.fn, .slice A2 a1.args.length c2] := And.left hd
    clear hd
    refine ⟨?_⟩
    simp only [putsFrom, Act.put, List.setIfInBounds_toArray, List.set_cons_zero, List.set_cons_succ, Nat.reduceAdd, d2] at hK ⊢
    go_simp
    exact hK.out _ _ ((Kp.refl _).alloc _) (rd_lit (HC.out.kp hg.k))
  case s4 =>
    intro x u hg hd K hK
    have d3 : RdCalls u (x 3) [a1] := And.left hd
    clear hd
    refine ⟨?_⟩
    simp only [putsFrom, Act.put, List.setIfInBounds_toArray, List.set_cons_zero, List.set_cons_succ, Nat.reduceAdd] at hK ⊢
    go_simp
    go_at_call 16
    have hc := calls_any _ [a1] _ d3 (by simp)
    refine hc.mono ?_
    clear hc
    rintro e u' ⟨⟨v', rfl, h⟩, hk⟩
    dsimp only
    exact hK.out _ _ hk h.rd
  case s5 =>
    intro x u hg hd K hK
    have d4 : RdCalls u (x 4) [a1] := And.left hd
    clear hd
    obtain ⟨b, off, c', e4, _, hp⟩ := pt_call (i := 0) d4 rfl
    simp only [List.length_cons, List.length_nil, Nat.zero_add, Nat.zero_mul, Nat.add_zero] at e4 hp
    have HP := hid hp; clear hp d4
    refine ⟨?_⟩
    simp only [putsFrom, Act.put, List.setIfInBounds_toArray, List.set_cons_zero, List.set_cons_succ, Nat.reduceAdd, e4] at hK ⊢
    go_simp
    exact hK.out _ _ (Kp.refl _) HP.out
  case s6 =>
    intro x u hg hd K hK
    have d5 : PtCall u (x 5) a1 := And.left hd
    clear hd
    obtain ⟨b, off, lb, e5, hb, hp⟩ := id d5
    rw [e5] at d5
    obtain ⟨lb, hr, g0, g1, g2⟩ := d5.rd; have HR := hid hr; clear hr d5 hp
    refine ⟨?_⟩
    simp only [putsFrom, Act.put, List.setIfInBounds_toArray, List.set_cons_zero, List.set_cons_succ, Nat.reduceAdd, e5] at hK ⊢
    go_simp
    exact hK.out _ _ (Kp.refl _) HR.out
  case s7 =>
    intro x u hg hd K hK
    have d1 : RdCalls u (x 1) a0 := And.left hd
    have d6 : RdCall u (x 6) a1 := And.left (And.right hd)
    clear hd
    refine ⟨?_⟩
    simp only [putsFrom, Act.put, List.setIfInBounds_toArray, List.set_cons_zero, List.set_cons_succ, Nat.reduceAdd] at hK ⊢
    go_simp
    go_at_call 15
    have hc := push_any _ _ a0 a1 _ d1 d6 hl
    refine hc.mono ?_
    clear hc
    rintro e u' ⟨⟨v', rfl, h⟩, hk⟩
    dsimp only
    exact hK.out _ _ hk h.rd
  case s8 =>
    intro x u hg hd K hK
    have d7 : RdCalls u (x 7) (a0 ++ [a1]) := And.left hd
    clear hd
    refine ⟨?_⟩
    simp only [putsFrom, Act.put, List.setIfInBounds_toArray, List.set_cons_zero, List.set_cons_succ, Nat.reduceAdd] at hK ⊢
    go_simp
    exact hK.out _ _ (Kp.refl _) d7
  intro x u hg he
  have d0 : (x 0) = .slice A a0.length c := And.left he
  have d1 : RdCalls u (x 1) a0 := And.left (And.right he)
  have d2 : (x 2) = .agg #[.int .i64 a1.site, .int .i64 a1.fn, .slice A2 a1.args.length c2] := And.left (And.right (And.right he))
  have d3 : RdCalls u (x 3) [a1] := And.left (And.right (And.right (And.right he)))
  have d4 : RdCalls u (x 4) [a1] := And.left (And.right (And.right (And.right (And.right he))))
  have d5 : PtCall u (x 5) a1 := And.left (And.right (And.right (And.right (And.right (And.right he)))))
  have d6 : RdCall u (x 6) a1 := And.left (And.right (And.right (And.right (And.right (And.right (And.right he))))))
  have d7 : RdCalls u (x 7) (a0 ++ [a1]) := And.left (And.right (And.right (And.right (And.right (And.right (And.right (And.right he)))))))
  have d8 : RdCalls u (x 8) (a0 ++ [a1]) := And.left (And.right (And.right (And.right (And.right (And.right (And.right (And.right (And.right he))))))))
  clear he
  obtain ⟨AP, cP, e8, hcP⟩ := RdL.form d8
  have hlen : (a0 ++ [a1]).length = a0.length + 1 := by simp
  rw [hlen] at e8
  rw [e8] at d8
  have HP : Hid (RdCalls u (.slice AP (a0.length + 1) cP) (a0 ++ [a1])) := hid d8
  clear d8 d7 d6 d5 d4 d3 d1
  refine ⟨?_⟩
  simp only [putsFrom, Act.put, List.setIfInBounds_toArray, List.set_cons_zero, List.set_cons_succ, Nat.reduceAdd, d0, d2, e8]
  clear d0 d2
  clear e8
  have G := hg
  go_wp2_with (first
    | (go_at_call 16; go_must (refine (calls_any _ (a0 ++ [a1]) _ HP.out hl2).mono ?_); rintro e wQ ⟨⟨vQ, rfl, hQ⟩, hkQ⟩)
    | (go_at_call 17; go_must (refine (pop_any _ a0 a1 _ hQ.rd hl).mono ?_); rintro e wR ⟨⟨v1, v2, rfl, hR1, hR2⟩, hkR⟩; have HR2 := hid hR2.rd; obtain ⟨lR, rfl, hoR, hokR⟩ := hR2; obtain ⟨AR, cR, rfl⟩ := own_form hoR; have HR1 := hid hR1.rd; obtain ⟨A1, c1, rfl, _⟩ := hR1.rd.form)
    | (go_at_call 18; go_must (refine (sameCalls_eq _ _ a0 _ (HR1.out.kp ((Kp.refl _).alloc _)) (HL.out.kp (((G.k.trans hkQ).trans hkR).alloc _)) hl3).mono ?_); rintro e wS ⟨rfl, hkS⟩; obtain ⟨g0, g1, g2, _, _⟩ := (((G.kp hkQ).kp hkR).kp ((Kp.refl _).alloc _)).kp hkS; obtain ⟨hcS, hfS, hzS⟩ := kp_at hkS (wR.heap.size + 1) (by simp))
    | (go_at_call 19; go_must (refine (sameCall_eq _ _ a1 _ (HC.out.kp ((((G.k.trans hkQ).trans hkR).alloc _).trans hkS)) (HR2.out.kp (((Kp.refl _).alloc _).trans hkS))).mono ?_); rintro e wT ⟨rfl, hkT⟩))
  go_ret
  exact ⟨rfl, ((((G.k.trans hkQ).trans hkR).alloc _).trans hkS).trans hkT⟩

/-! ### The row's step (the guide's frame, written by program) -/
set_option maxRecDepth 100000 in
theorem lifted (os : Os) (started : os.Started) (H : Type) (enc : TypeId × Value → H) :
    ReturnsInHanded {} Try.checked os 3 .any (Rows.defersStackSpec.pre6 enc Try.prog Try.f3 Rows.defersStackRow.domain false) (Rows.defersStackSpec.post enc Try.prog Try.f3 false true false false) := by
  refine returnsInHanded_of_change_sized (C := Try.checked) own started (by kernel_rfl) Try.func3
    (ChangeSpec.witness6 (enc := enc) (C := Try.checked) false ⟨#[], #[.slice none 0 0, .agg #[.int .i64 0, .int .i64 0, .slice none 0 0]], []⟩ 8 (by kernel_rfl) (by kernel_rfl) (by kernel_rfl) (by kernel_rfl)) ?_
  intro W base args ds gs before hval0 hW _ hsz0 _
  have hsz : (DataW.weightsEach Try.prog (Try.f3.params.toList ++ Rows.defersStackSpec.plain.varTypes Try.prog) (ds ++ gs)).all (· ≤ reachBytes) = true := hsz0
  clear hsz0
  have hval : ∀ (j : Nat) t v, Try.f3.params[j]? = some t → args[j]? = some v → Value.okWide Try.prog W .any base t v := hval0
  have hW' := hW
  obtain ⟨p, q, hA0, hV, rfl, hfz, hnd⟩ := hW
  have hA : DataW.TrodAll enc Try.prog W 0 (fun _ => true) true Try.f3.params.toList args.toList ds p := hA0
  rw [Try.params3] at hA hval hsz
  obtain ⟨v0, vs0, d0, ds0, p0, q0, hargs, rfl, rfl, h0, r0⟩ := trodAll_cons hA
  obtain ⟨v1, vs1, d1, ds1, p1, q1, rfl, rfl, rfl, h1, r1⟩ := trodAll_cons r0
  obtain ⟨rfl, rfl, rfl⟩ := trodAll_nil r1
  obtain rfl : args = #[v0, v1] := by cases args; simp_all
  obtain ⟨rfl, rfl⟩ := trodVars_none hV
  have k0 := h0
  have lt0 : ∀ x ∈ p0, x.block < W.heap.size := by obtain ⟨m, hm⟩ := k0; exact DataW.trod_lt m _ _ _ hm
  have hz0 : ∀ n ∈ DataW.weights Try.prog 22 d0, n ≤ reachBytes := fun n hn => by
    have := List.all_eq_true.1 hsz _ (DataW.weights_mem_each (j := 0) rfl rfl n hn)
    simpa using this
  obtain ⟨a0, w0⟩ := open_calls (hval 0 22 v0 rfl rfl) h0 hz0
  have k1 := h1
  have lt1 : ∀ x ∈ p1, x.block < W.heap.size := by obtain ⟨m, hm⟩ := k1; exact DataW.trod_lt m _ _ _ hm
  have hz1 : ∀ n ∈ DataW.weights Try.prog 25 d1, n ≤ reachBytes := fun n hn => by
    have := List.all_eq_true.1 hsz _ (DataW.weights_mem_each (j := 1) rfl rfl n hn)
    simpa using this
  obtain ⟨a1, w1⟩ := open_call (hval 1 25 v1 rfl rfl) h1 hz1
  clear hA0 hval0
  simp only [List.append_nil] at hW'
  refine (walk v0 a0 v1 a1 W w0 w1).mono fun e W' ⟨he, bel⟩ => ?_
  subst he
  exact ⟨_, rfl, _, _, _, [], _, [], hW', trodAll_mk1 (shut_bool Try.underlying4 _), (trodAll_cons_mk (Below.trod laidOut (by kernel_rfl) (of_decide_eq_true (by kernel_rfl)) k0 bel lt0) (trodAll_cons_mk (Below.trod laidOut (by kernel_rfl) (of_decide_eq_true (by kernel_rfl)) k1 bel lt1) trodAll_mk0)), rfl, Below.frame bel _, fun h => by cases h⟩

theorem over : Rows.defersStackRow.holds Try.pinned (OpenSpec.ofChange Rows.defersStackSpec) :=
  OpenClaim.holds_of_wide 3 Try.f3 rfl rfl rfl rfl rfl rfl rfl ⟨rfl, rfl, rfl, rfl, rfl⟩ rfl rfl rfl rfl rfl (by kernel_rfl) Try.func3 (by kernel_rfl)
    (of_decide_eq_true (by kernel_rfl)) (by unfold Func.isWrapper; rw [if_neg (of_decide_eq_false (by kernel_rfl))]; exact ⟨rfl, rfl⟩)
    (fun os started H enc _ => lifted os started H enc)

/-- THE STATEMENT. -/
theorem proved : Rows.DefersStackSaid := over
#print axioms proved

end Go.Proofs.Ytmcidhjcimjeiaa.defersStack
