/-
Package parse: a whole source's tokens (written by mkpar.py). Condition: at most 2000 tokens.
Package parse: deep. Condition: at most 2000 tokens.
Package parse: Parse. Condition: the text lies within the reach.
-/
import Derived.Test.YtgonekmmbeedeaaParE
import Derived.Test.YtgonekmmbeedeaaParS
import Derived.Test.YtgonekmmbeedeaaScanT
import Derived.Test.YtgonekmmbeedeaaToks
namespace Go.Proofs.Ytgonekmmbeedeaa.Pa
open Go.RowKit
set_option linter.unusedVariables false
set_option linter.unusedSimpArgs false

noncomputable def filesF : Nat → List T → List Tk → Pr (List T)
  | 0, _, _ => .out
  | f + 1, ks, [] => .ok ks []
  | f + 1, ks, t :: r => if kindOf (t :: r) = 6 then filesF f ks r else
      (want kFunc (t :: r)).bind fun _ r => (nmM r).bind fun s r => (funF f 2 s r).bind fun a r => if r = [] ∨ kindOf r = 6 then filesF f (ks ++ [a]) r else .bad
theorem files_cons (f : Nat) (ks : List T) (l : List Tk) (h : l ≠ []) : filesF (f + 1) ks l = if kindOf l = 6 then filesF f ks l.tail else
      (want kFunc l).bind fun _ r => (nmM r).bind fun s r => (funF f 2 s r).bind fun a r => if r = [] ∨ kindOf r = 6 then filesF f (ks ++ [a]) r else .bad := by
  cases l with
  | nil => exact absurd rfl h
  | cons t r => rfl
theorem fin_files : ∀ f ks l, 8 * l.length + 2 ≤ f → Fin (l.length + 1) (filesF f ks l)
  | 0, _, l, h => by omega
  | f + 1, ks, [], h => by rw [filesF]; exact Nat.lt_succ_self _
  | f + 1, ks, t :: r, h => by
    rw [filesF]
    simp only [List.length_cons] at h ⊢
    split
    · exact (fin_files f ks r (by omega)).mono (by omega)
    · refine (fin_want kFunc (t :: r)).bind fun _ r1 h1 => (fin_name r1).bind fun s r2 h2 => ((fin_all f).fun_ 2 s r2 (by simp at h1; omega)).bind fun a r3 h3 => ?_
      simp only [List.length_cons] at h1
      split
      · exact (fin_files f _ r3 (by omega)).mono (by omega)
      · exact trivial
/-- What the tokens are, as a tree; or the error's number. -/
noncomputable def treeM (l : List Tk) : Option T := match filesF (8 * l.length + 8) [] l with
  | .ok ks _ => some (nd 1 ks)
  | _ => none
def ResF (w0 : World) (rp : Nat) (L : List TokenM) (ps na : List GNode) (s : Nat) (r : Pr (List T)) (e : Ending) (w' : World) : Prop := match r with
  | .ok ks l' => ∃ k : Nat, e = .returned (.int .i64 (k : Int)) ∧ StT w0 rp L l' ps na [nd 1 ks] s nilV [] w'
  | .bad => e = stopP ∧ Below rp w0 w'
  | .out => True
theorem StT.look1 {w0 w : World} {rp : Nat} {L : List TokenM} {l : List Tk} {ps na : List GNode} {ts : List T} {s : Nat} {kv : Value} {kids : List Int} (h : StT w0 rp L l ps na ts s kv kids w) : ∃ (A : Option Addr) (c n N : Nat), rp < w.heap.size ∧ w.cell? ⟨rp, 0, none⟩ = some (.slice A N c) ∧ w.cell? ⟨rp, 1, none⟩ = some (.int .i64 (n : Int)) ∧ n + l.length = N := by
  obtain ⟨new, h⟩ := h
  obtain ⟨lv, tv, n, hp⟩ := h.prs
  obtain ⟨A, c, rfl⟩ := hp.lform
  exact ⟨A, c, n, L.length, hp.rp_lt, hp.c0, hp.c1, hp.here⟩
set_option maxRecDepth 20000 in
set_option maxHeartbeats 16000000 in
theorem file_ok (f : Nat) {w : World} {rp : Nat} {L : List TokenM} {l : List Tk} {P Na : List GNode} {s : Nat} (h : StT w rp L l P Na [] (s + 1) nilV [] w) (hne : filesF f [] l ≠ .out) : Calls Try.prog 42 #[.pointer (some ⟨rp, 0, none⟩)] w (ResF w rp L P Na s (filesF f [] l)) := by
  have HS := hid h
  generalize hR : filesF f [] l = R at hne ⊢
  have HR := hid hR
  have HNE := hid hne
  clear h hR hne
  go_enter Try.func42, Try.ntmps42
  go_wp2_with fail
  go_loopw [3, 4] (fun kv _ wr => ∃ (g : Nat) (us : List T) (l' : List Tk) (A : Option Addr) (c : Nat), filesF g us l' = R ∧ kv = .slice A us.length c ∧ StT w rp L l' P Na us (s + 1) (.slice A us.length c) (rootsL (P.length + sizeL []) us) wr) (fun _ _ wr => L.length - atOf wr rp)
  case atStart => exact ⟨f, [], l, none, 0, HR.out, rfl, HS.out⟩
  case round =>
    clear HR HS
    obtain ⟨g, us, l', A, c, hr, rfl, hs⟩ := hrel
    have HS := hid hs
    have HAT := hid hs.at_
    obtain ⟨AL, cL, n, NL, lt, q0, q1, hlen⟩ := hs.look1
    clear hs
    cases g with
    | zero => exact absurd (by rw [← hr, filesF]) HNE.out
    | succ g =>
      by_cases h0 : l' = []
      · subst h0
        rw [filesF] at hr
        have HR := hid hr
        clear hr
        have i1 : ¬ (n : Int) < (NL : Int) := by simp at hlen; omega
        go_upto_region 2 with fail
        refine wp_region_kp [[], [0], [1], [2], [], [4], [5], [6], [7], [3, 8]] (fun u => Kp wr u)
          [fun (y : Value) (u : World) => y = (.pointer (some ⟨rp, 0, none⟩) : Value),
           fun (y : Value) (u : World) => y = (.pointer (some ⟨rp, 0, none⟩) : Value),
           fun (y : Value) (u : World) => y = (.pointer (some ⟨rp, 1, none⟩) : Value),
           fun (y : Value) (u : World) => y = (.int .i64 (n : Int) : Value),
           fun (y : Value) (u : World) => y = (.pointer (some ⟨rp, 0, none⟩) : Value),
           fun (y : Value) (u : World) => y = (.pointer (some ⟨rp, 0, none⟩) : Value),
           fun (y : Value) (u : World) => y = (.pointer (some ⟨rp, 0, none⟩) : Value),
           fun (y : Value) (u : World) => y = (.slice AL NL cL : Value),
           fun (y : Value) (u : World) => y = (.int .i64 (NL : Int) : Value),
           fun (y : Value) (u : World) => y = (.bool false : Value)]
          (by kernel_rfl) (by kernel_rfl) (by kernel_rfl) (by kernel_rfl) ((Kp.refl _).drew) (fun _ _ hk h => h.trans hk) ⟨fun _ _ _ _ h => h, fun _ _ _ _ h => h, fun _ _ _ _ h => h, fun _ _ _ _ h => h, fun _ _ _ _ h => h, fun _ _ _ _ h => h, fun _ _ _ _ h => h, fun _ _ _ _ h => h, fun _ _ _ _ h => h, fun _ _ _ _ h => h, trivial⟩ ⟨?sb0, ?sb1, ?sb2, ?sb3, ?sb4, ?sb5, ?sb6, ?sb7, ?sb8, ?sb9, trivial⟩ ?hEb
        case sb0 =>
          intro x u hg hd K hK
          clear hd
          refine ⟨?_⟩
          simp only [putsFrom, Act.put, List.setIfInBounds_toArray, List.set_cons_zero, List.set_cons_succ, Nat.reduceAdd] at hK ⊢
          go_simp
          exact hK.out _ _ (Kp.refl _) rfl
        case sb1 =>
          intro x u hg hd K hK
          have d0 : (x 0) = .pointer (some ⟨rp, 0, none⟩) := And.left hd
          clear hd
          refine ⟨?_⟩
          simp only [putsFrom, Act.put, List.setIfInBounds_toArray, List.set_cons_zero, List.set_cons_succ, Nat.reduceAdd, d0] at hK ⊢
          go_simp
          exact hK.out _ _ (Kp.refl _) rfl
        case sb2 =>
          intro x u hg hd K hK
          have d1 : (x 1) = .pointer (some ⟨rp, 0, none⟩) := And.left hd
          clear hd
          refine ⟨?_⟩
          simp only [putsFrom, Act.put, List.setIfInBounds_toArray, List.set_cons_zero, List.set_cons_succ, Nat.reduceAdd, d1] at hK ⊢
          go_simp
          exact hK.out _ _ (Kp.refl _) rfl
        case sb3 =>
          intro x u hg hd K hK
          have d2 : (x 2) = .pointer (some ⟨rp, 1, none⟩) := And.left hd
          clear hd
          have q0 := cell_kp hg lt q1
          refine ⟨?_⟩
          simp only [putsFrom, Act.put, List.setIfInBounds_toArray, List.set_cons_zero, List.set_cons_succ, Nat.reduceAdd, d2] at hK ⊢
          go_simp
          exact hK.out _ _ (Kp.refl _) rfl
        case sb4 =>
          intro x u hg hd K hK
          clear hd
          refine ⟨?_⟩
          simp only [putsFrom, Act.put, List.setIfInBounds_toArray, List.set_cons_zero, List.set_cons_succ, Nat.reduceAdd] at hK ⊢
          go_simp
          exact hK.out _ _ (Kp.refl _) rfl
        case sb5 =>
          intro x u hg hd K hK
          have d4 : (x 4) = .pointer (some ⟨rp, 0, none⟩) := And.left hd
          clear hd
          refine ⟨?_⟩
          simp only [putsFrom, Act.put, List.setIfInBounds_toArray, List.set_cons_zero, List.set_cons_succ, Nat.reduceAdd, d4] at hK ⊢
          go_simp
          exact hK.out _ _ (Kp.refl _) rfl
        case sb6 =>
          intro x u hg hd K hK
          have d5 : (x 5) = .pointer (some ⟨rp, 0, none⟩) := And.left hd
          clear hd
          refine ⟨?_⟩
          simp only [putsFrom, Act.put, List.setIfInBounds_toArray, List.set_cons_zero, List.set_cons_succ, Nat.reduceAdd, d5] at hK ⊢
          go_simp
          exact hK.out _ _ (Kp.refl _) rfl
        case sb7 =>
          intro x u hg hd K hK
          have d6 : (x 6) = .pointer (some ⟨rp, 0, none⟩) := And.left hd
          clear hd
          have q0 := cell_kp hg lt q0
          refine ⟨?_⟩
          simp only [putsFrom, Act.put, List.setIfInBounds_toArray, List.set_cons_zero, List.set_cons_succ, Nat.reduceAdd, d6] at hK ⊢
          go_simp
          exact hK.out _ _ (Kp.refl _) rfl
        case sb8 =>
          intro x u hg hd K hK
          have d7 : (x 7) = .slice AL NL cL := And.left hd
          clear hd
          refine ⟨?_⟩
          simp only [putsFrom, Act.put, List.setIfInBounds_toArray, List.set_cons_zero, List.set_cons_succ, Nat.reduceAdd, d7] at hK ⊢
          go_simp
          exact hK.out _ _ (Kp.refl _) rfl
        case sb9 =>
          intro x u hg hd K hK
          have d3 : (x 3) = .int .i64 (n : Int) := And.left hd
          have d8 : (x 8) = .int .i64 (NL : Int) := And.left (And.right hd)
          clear hd
          refine ⟨?_⟩
          simp only [putsFrom, Act.put, List.setIfInBounds_toArray, List.set_cons_zero, List.set_cons_succ, Nat.reduceAdd, d3, d8] at hK ⊢
          go_simp
          exact hK.out _ _ (Kp.refl _) rfl
        intro x u hg he
        have d0 : (x 0) = .pointer (some ⟨rp, 0, none⟩) := And.left he
        have d1 : (x 1) = .pointer (some ⟨rp, 0, none⟩) := And.left (And.right he)
        have d2 : (x 2) = .pointer (some ⟨rp, 1, none⟩) := And.left (And.right (And.right he))
        have d3 : (x 3) = .int .i64 (n : Int) := And.left (And.right (And.right (And.right he)))
        have d4 : (x 4) = .pointer (some ⟨rp, 0, none⟩) := And.left (And.right (And.right (And.right (And.right he))))
        have d5 : (x 5) = .pointer (some ⟨rp, 0, none⟩) := And.left (And.right (And.right (And.right (And.right (And.right he)))))
        have d6 : (x 6) = .pointer (some ⟨rp, 0, none⟩) := And.left (And.right (And.right (And.right (And.right (And.right (And.right he))))))
        have d7 : (x 7) = .slice AL NL cL := And.left (And.right (And.right (And.right (And.right (And.right (And.right (And.right he)))))))
        have d8 : (x 8) = .int .i64 (NL : Int) := And.left (And.right (And.right (And.right (And.right (And.right (And.right (And.right (And.right he))))))))
        have d9 : (x 9) = .bool false := And.left (And.right (And.right (And.right (And.right (And.right (And.right (And.right (And.right (And.right he)))))))))
        clear he
        refine ⟨?_⟩
        simp only [putsFrom, Act.put, List.setIfInBounds_toArray, List.set_cons_zero, List.set_cons_succ, Nat.reduceAdd, d0, d1, d2, d3, d4, d5, d6, d7, d8, d9]
        clear d0 d1 d2 d3 d4 d5 d6 d7 d8 d9
        have HS := hid (HS.out.kp hg)
        clear hg lt q0 q1 hlen
        obtain ⟨W1, hW1⟩ : ∃ x, x = u := ⟨_, rfl⟩
        subst hW1
        go_wp2_with (go_at_call 69; go_must (refine (t_put (ts := []) (us := us) 1 noB noB 0 (by unfold okI; omega) (by decide) (by decide) (okI0) HS.out).mono ?_); rintro e wn ⟨q9, rfl, hqq9, hs, hk⟩; have HQq9 := hid hqq9; clear hqq9; have HS := hid hs; clear hs hk)
        go_ret
        rw [← HR.out]
        exact ⟨q9, rfl, StT.weak HS.out (by omega)⟩
      have i1 : (n : Int) < (NL : Int) := by have := List.length_pos_iff.2 h0; omega
      rw [files_cons g us l' h0] at hr
      go_upto_region 2 with fail
      refine wp_region_kp [[], [0], [1], [2], [], [4], [5], [6], [7], [3, 8]] (fun u => Kp wr u)
        [fun (y : Value) (u : World) => y = (.pointer (some ⟨rp, 0, none⟩) : Value),
         fun (y : Value) (u : World) => y = (.pointer (some ⟨rp, 0, none⟩) : Value),
         fun (y : Value) (u : World) => y = (.pointer (some ⟨rp, 1, none⟩) : Value),
         fun (y : Value) (u : World) => y = (.int .i64 (n : Int) : Value),
         fun (y : Value) (u : World) => y = (.pointer (some ⟨rp, 0, none⟩) : Value),
         fun (y : Value) (u : World) => y = (.pointer (some ⟨rp, 0, none⟩) : Value),
         fun (y : Value) (u : World) => y = (.pointer (some ⟨rp, 0, none⟩) : Value),
         fun (y : Value) (u : World) => y = (.slice AL NL cL : Value),
         fun (y : Value) (u : World) => y = (.int .i64 (NL : Int) : Value),
         fun (y : Value) (u : World) => y = (.bool true : Value)]
        (by kernel_rfl) (by kernel_rfl) (by kernel_rfl) (by kernel_rfl) ((Kp.refl _).drew) (fun _ _ hk h => h.trans hk) ⟨fun _ _ _ _ h => h, fun _ _ _ _ h => h, fun _ _ _ _ h => h, fun _ _ _ _ h => h, fun _ _ _ _ h => h, fun _ _ _ _ h => h, fun _ _ _ _ h => h, fun _ _ _ _ h => h, fun _ _ _ _ h => h, fun _ _ _ _ h => h, trivial⟩ ⟨?sc0, ?sc1, ?sc2, ?sc3, ?sc4, ?sc5, ?sc6, ?sc7, ?sc8, ?sc9, trivial⟩ ?hEc
      case sc0 =>
        intro x u hg hd K hK
        clear hd
        refine ⟨?_⟩
        simp only [putsFrom, Act.put, List.setIfInBounds_toArray, List.set_cons_zero, List.set_cons_succ, Nat.reduceAdd] at hK ⊢
        go_simp
        exact hK.out _ _ (Kp.refl _) rfl
      case sc1 =>
        intro x u hg hd K hK
        have d0 : (x 0) = .pointer (some ⟨rp, 0, none⟩) := And.left hd
        clear hd
        refine ⟨?_⟩
        simp only [putsFrom, Act.put, List.setIfInBounds_toArray, List.set_cons_zero, List.set_cons_succ, Nat.reduceAdd, d0] at hK ⊢
        go_simp
        exact hK.out _ _ (Kp.refl _) rfl
      case sc2 =>
        intro x u hg hd K hK
        have d1 : (x 1) = .pointer (some ⟨rp, 0, none⟩) := And.left hd
        clear hd
        refine ⟨?_⟩
        simp only [putsFrom, Act.put, List.setIfInBounds_toArray, List.set_cons_zero, List.set_cons_succ, Nat.reduceAdd, d1] at hK ⊢
        go_simp
        exact hK.out _ _ (Kp.refl _) rfl
      case sc3 =>
        intro x u hg hd K hK
        have d2 : (x 2) = .pointer (some ⟨rp, 1, none⟩) := And.left hd
        clear hd
        have q0 := cell_kp hg lt q1
        refine ⟨?_⟩
        simp only [putsFrom, Act.put, List.setIfInBounds_toArray, List.set_cons_zero, List.set_cons_succ, Nat.reduceAdd, d2] at hK ⊢
        go_simp
        exact hK.out _ _ (Kp.refl _) rfl
      case sc4 =>
        intro x u hg hd K hK
        clear hd
        refine ⟨?_⟩
        simp only [putsFrom, Act.put, List.setIfInBounds_toArray, List.set_cons_zero, List.set_cons_succ, Nat.reduceAdd] at hK ⊢
        go_simp
        exact hK.out _ _ (Kp.refl _) rfl
      case sc5 =>
        intro x u hg hd K hK
        have d4 : (x 4) = .pointer (some ⟨rp, 0, none⟩) := And.left hd
        clear hd
        refine ⟨?_⟩
        simp only [putsFrom, Act.put, List.setIfInBounds_toArray, List.set_cons_zero, List.set_cons_succ, Nat.reduceAdd, d4] at hK ⊢
        go_simp
        exact hK.out _ _ (Kp.refl _) rfl
      case sc6 =>
        intro x u hg hd K hK
        have d5 : (x 5) = .pointer (some ⟨rp, 0, none⟩) := And.left hd
        clear hd
        refine ⟨?_⟩
        simp only [putsFrom, Act.put, List.setIfInBounds_toArray, List.set_cons_zero, List.set_cons_succ, Nat.reduceAdd, d5] at hK ⊢
        go_simp
        exact hK.out _ _ (Kp.refl _) rfl
      case sc7 =>
        intro x u hg hd K hK
        have d6 : (x 6) = .pointer (some ⟨rp, 0, none⟩) := And.left hd
        clear hd
        have q0 := cell_kp hg lt q0
        refine ⟨?_⟩
        simp only [putsFrom, Act.put, List.setIfInBounds_toArray, List.set_cons_zero, List.set_cons_succ, Nat.reduceAdd, d6] at hK ⊢
        go_simp
        exact hK.out _ _ (Kp.refl _) rfl
      case sc8 =>
        intro x u hg hd K hK
        have d7 : (x 7) = .slice AL NL cL := And.left hd
        clear hd
        refine ⟨?_⟩
        simp only [putsFrom, Act.put, List.setIfInBounds_toArray, List.set_cons_zero, List.set_cons_succ, Nat.reduceAdd, d7] at hK ⊢
        go_simp
        exact hK.out _ _ (Kp.refl _) rfl
      case sc9 =>
        intro x u hg hd K hK
        have d3 : (x 3) = .int .i64 (n : Int) := And.left hd
        have d8 : (x 8) = .int .i64 (NL : Int) := And.left (And.right hd)
        clear hd
        refine ⟨?_⟩
        simp only [putsFrom, Act.put, List.setIfInBounds_toArray, List.set_cons_zero, List.set_cons_succ, Nat.reduceAdd, d3, d8] at hK ⊢
        go_simp
        exact hK.out _ _ (Kp.refl _) rfl
      intro x u hg he
      have d0 : (x 0) = .pointer (some ⟨rp, 0, none⟩) := And.left he
      have d1 : (x 1) = .pointer (some ⟨rp, 0, none⟩) := And.left (And.right he)
      have d2 : (x 2) = .pointer (some ⟨rp, 1, none⟩) := And.left (And.right (And.right he))
      have d3 : (x 3) = .int .i64 (n : Int) := And.left (And.right (And.right (And.right he)))
      have d4 : (x 4) = .pointer (some ⟨rp, 0, none⟩) := And.left (And.right (And.right (And.right (And.right he))))
      have d5 : (x 5) = .pointer (some ⟨rp, 0, none⟩) := And.left (And.right (And.right (And.right (And.right (And.right he)))))
      have d6 : (x 6) = .pointer (some ⟨rp, 0, none⟩) := And.left (And.right (And.right (And.right (And.right (And.right (And.right he))))))
      have d7 : (x 7) = .slice AL NL cL := And.left (And.right (And.right (And.right (And.right (And.right (And.right (And.right he)))))))
      have d8 : (x 8) = .int .i64 (NL : Int) := And.left (And.right (And.right (And.right (And.right (And.right (And.right (And.right (And.right he))))))))
      have d9 : (x 9) = .bool true := And.left (And.right (And.right (And.right (And.right (And.right (And.right (And.right (And.right (And.right he)))))))))
      clear he
      refine ⟨?_⟩
      simp only [putsFrom, Act.put, List.setIfInBounds_toArray, List.set_cons_zero, List.set_cons_succ, Nat.reduceAdd, d0, d1, d2, d3, d4, d5, d6, d7, d8, d9]
      clear d0 d1 d2 d3 d4 d5 d6 d7 d8 d9
      have HS := hid (HS.out.kp hg)
      clear hg lt q0 q1 hlen
      obtain ⟨W1, hW1⟩ : ∃ x, x = u := ⟨_, rfl⟩
      subst hW1
      clear i1
      by_cases k6 : kindOf l' = 6
      · rw [if_pos k6] at hr
        have HR := hid hr
        have hlt := kind_pos k6 (by decide)
        clear hr
        go_wp2_with (go_at_call 64; go_must (refine (t_kind HS.out).mono ?_); rintro e wn ⟨rfl, hs, hk⟩; rw [k6]; have HS := hid hs; have hl0 := h0; clear hk; have hs := StT.pass hs hl0; obtain ⟨n, n1, p1, p2, p3, p4, p5⟩ := hs; have HP4 := hid p4; clear p4 p5; )
        exact ⟨⟨g, us, l'.tail, A, c, HR.out, rfl, StT.weak HP4.out (by omega)⟩, by rw [HAT.out, HP4.out.at_]; omega⟩
      rw [if_neg k6] at hr
      obtain ⟨kk, ckk⟩ : ∃ kk, kindOf l' = kk := ⟨_, rfl⟩
      have k1 : (kk == 6) = false := by rw [beq_eq_false_iff_ne]; rw [← ckk]; exact k6
      clear k6
      by_cases d : isSign kFunc l' = true
      rotate_left
      · have d2 := eq_false_of_ne_true d
        have HT := hid (show Pr.bad = R by rw [← hr]; simp [want, d2, Pr.bind])
        clear hr d
        go_upto_region 5 with (go_at_call 64; go_must (refine (t_kind HS.out).mono ?_); rintro e wn ⟨rfl, hs, hk⟩; rw [ckk]; have HS := hid hs; clear hs hk)
        go_wp2_with (go_at_call 65; go_must (refine (t_wantN ⟨#[102, 117, 110, 99]⟩ [102, 117, 110, 99] rfl HS.out d2).mono ?_); rintro e wn ⟨rfl, hb, hk⟩; unfold stopP; have HB := hid hb; clear hb hk)
        rw [← HT.out]
        exact ⟨rfl, rfl, HB.out⟩
      have hlt0 := sign_pos d
      rw [want, if_pos d] at hr
      simp only [Pr.bind] at hr
      by_cases n1 : kindOf l'.tail = 1
      rotate_left
      · rw [nmM, if_neg n1] at hr
        have HT := hid hr
        clear hr
        go_upto_region 5 with (go_at_call 64; go_must (refine (t_kind HS.out).mono ?_); rintro e wn ⟨rfl, hs, hk⟩; rw [ckk]; have HS := hid hs; clear hs hk)
        go_upto_region 6 with (go_at_call 65; go_must (refine (t_want ⟨#[102, 117, 110, 99]⟩ [102, 117, 110, 99] rfl HS.out d).mono ?_); rintro e wn ⟨rfl, hs, hk⟩; have HS := hid hs; clear hs hk)
        go_wp2_with (go_at_call 66; go_must (refine (t_nameN HS.out n1).mono ?_); rintro e wn ⟨rfl, hb, hk⟩; unfold stopP; have HB := hid hb; clear hb hk)
        rw [← HT.out]
        exact ⟨rfl, rfl, HB.out⟩
      have hlt1 := kind_pos n1 (by decide)
      rw [nmM, if_pos n1] at hr
      simp only at hr
      cases hu : funF g 2 (textOf l'.tail) l'.tail.tail with
      | out => exact absurd (by rw [← hr, hu]) HNE.out
      | bad =>
        have hnu : funF g 2 (textOf l'.tail) l'.tail.tail ≠ .out := by rw [hu]; intro e; cases e
        rw [hu] at hr
        have HT := hid hr
        clear hr
        go_upto_region 5 with (go_at_call 64; go_must (refine (t_kind HS.out).mono ?_); rintro e wn ⟨rfl, hs, hk⟩; rw [ckk]; have HS := hid hs; clear hs hk)
        go_upto_region 6 with (go_at_call 65; go_must (refine (t_want ⟨#[102, 117, 110, 99]⟩ [102, 117, 110, 99] rfl HS.out d).mono ?_); rintro e wn ⟨rfl, hs, hk⟩; have HS := hid hs; clear hs hk)
        have htx := HS.out.text_ok
        go_upto_region 7 with (go_at_call 66; go_must (refine (t_name HS.out n1).mono ?_); rintro e wn ⟨rfl, hs, hk⟩; have HS := hid hs; clear hs hk)
        go_wp2_with (go_at_call 67; go_must (refine (((ctr g).fun_ 2 (textOf l'.tail) (by unfold okI; omega) htx HS.out hnu).mono fun _ _ x => Res.bad x hu).mono ?_); rintro e wn ⟨rfl, hb⟩; unfold stopP; have HB := hid hb; clear hb)
        rw [← HT.out]
        exact ⟨rfl, rfl, HB.out⟩
      | ok a r2 =>
        have hnu : funF g 2 (textOf l'.tail) l'.tail.tail ≠ .out := by rw [hu]; intro e; cases e
        rw [hu] at hr
        simp only at hr
        have hlt2 := fun_lt hu
        by_cases r0 : r2 = []
        · have HR2 := hid (show filesF g (us ++ [a]) r2 = R by rw [← hr, if_pos (.inl r0)])
          clear hr
          go_upto_region 5 with (go_at_call 64; go_must (refine (t_kind HS.out).mono ?_); rintro e wn ⟨rfl, hs, hk⟩; rw [ckk]; have HS := hid hs; clear hs hk)
          go_upto_region 6 with (go_at_call 65; go_must (refine (t_want ⟨#[102, 117, 110, 99]⟩ [102, 117, 110, 99] rfl HS.out d).mono ?_); rintro e wn ⟨rfl, hs, hk⟩; have HS := hid hs; clear hs hk)
          have htx := HS.out.text_ok
          go_upto_region 7 with (go_at_call 66; go_must (refine (t_name HS.out n1).mono ?_); rintro e wn ⟨rfl, hs, hk⟩; have HS := hid hs; clear hs hk)
          go_upto_region 8 with first | (go_at_call 67; go_must (refine (((ctr g).fun_ 2 (textOf l'.tail) (by unfold okI; omega) htx HS.out hnu).mono fun _ _ x => Res.ok x hu).mono ?_); rintro e wn ⟨q, rfl, hqq, hs⟩; have HQq := hid hqq; clear hqq; have HS := hid hs; clear hs) | (at_builtin; go_must (refine t_app rfl (.tmp 29) (.tmp 33) rfl (ts := []) (us := us) HS.out HQq.out rfl rfl ?_); intro A1 c1 wn hs; have HS := hid hs; clear hs)
          obtain ⟨W9, hW9⟩ : ∃ x, x = wn := ⟨_, rfl⟩
          subst hW9
          clear hu hnu
          obtain ⟨AL, cL, n, NL, lt, q0, q1, hlen⟩ := HS.out.look1
          have i1 : ¬ (n : Int) < (NL : Int) := by rw [r0] at hlen; simp at hlen; omega
          clear r0
          refine wp_region_kp [[], [0], [1], [2], [], [4], [5], [6], [7], [3, 8], [9], [10], [10, 11], [10, 12], [10, 13]] (fun u => Kp W9 u)
            [fun (y : Value) (u : World) => y = (.pointer (some ⟨rp, 0, none⟩) : Value),
             fun (y : Value) (u : World) => y = (.pointer (some ⟨rp, 0, none⟩) : Value),
             fun (y : Value) (u : World) => y = (.pointer (some ⟨rp, 1, none⟩) : Value),
             fun (y : Value) (u : World) => y = (.int .i64 (n : Int) : Value),
             fun (y : Value) (u : World) => y = (.pointer (some ⟨rp, 0, none⟩) : Value),
             fun (y : Value) (u : World) => y = (.pointer (some ⟨rp, 0, none⟩) : Value),
             fun (y : Value) (u : World) => y = (.pointer (some ⟨rp, 0, none⟩) : Value),
             fun (y : Value) (u : World) => y = (.slice AL NL cL : Value),
             fun (y : Value) (u : World) => y = (.int .i64 (NL : Int) : Value),
             fun (y : Value) (u : World) => y = (.bool false : Value),
             fun (y : Value) (u : World) => y = (.bool false : Value),
             fun (y : Value) (u : World) => y = (undef : Value),
             fun (y : Value) (u : World) => y = (undef : Value),
             fun (y : Value) (u : World) => y = (undef : Value),
             fun (y : Value) (u : World) => y = (.bool false : Value)]
            (by kernel_rfl) (by kernel_rfl) (by kernel_rfl) (by kernel_rfl) ((Kp.refl _).drew) (fun _ _ hk h => h.trans hk) ⟨fun _ _ _ _ h => h, fun _ _ _ _ h => h, fun _ _ _ _ h => h, fun _ _ _ _ h => h, fun _ _ _ _ h => h, fun _ _ _ _ h => h, fun _ _ _ _ h => h, fun _ _ _ _ h => h, fun _ _ _ _ h => h, fun _ _ _ _ h => h, fun _ _ _ _ h => h, fun _ _ _ _ h => h, fun _ _ _ _ h => h, fun _ _ _ _ h => h, fun _ _ _ _ h => h, trivial⟩ ⟨?sd0, ?sd1, ?sd2, ?sd3, ?sd4, ?sd5, ?sd6, ?sd7, ?sd8, ?sd9, ?sd10, ?sd11, ?sd12, ?sd13, ?sd14, trivial⟩ ?hEd
          case sd0 =>
            intro x u hg hd K hK
            clear hd
            refine ⟨?_⟩
            simp only [putsFrom, Act.put, List.setIfInBounds_toArray, List.set_cons_zero, List.set_cons_succ, Nat.reduceAdd] at hK ⊢
            go_simp
            exact hK.out _ _ (Kp.refl _) rfl
          case sd1 =>
            intro x u hg hd K hK
            have d0 : (x 0) = .pointer (some ⟨rp, 0, none⟩) := And.left hd
            clear hd
            refine ⟨?_⟩
            simp only [putsFrom, Act.put, List.setIfInBounds_toArray, List.set_cons_zero, List.set_cons_succ, Nat.reduceAdd, d0] at hK ⊢
            go_simp
            exact hK.out _ _ (Kp.refl _) rfl
          case sd2 =>
            intro x u hg hd K hK
            have d1 : (x 1) = .pointer (some ⟨rp, 0, none⟩) := And.left hd
            clear hd
            refine ⟨?_⟩
            simp only [putsFrom, Act.put, List.setIfInBounds_toArray, List.set_cons_zero, List.set_cons_succ, Nat.reduceAdd, d1] at hK ⊢
            go_simp
            exact hK.out _ _ (Kp.refl _) rfl
          case sd3 =>
            intro x u hg hd K hK
            have d2 : (x 2) = .pointer (some ⟨rp, 1, none⟩) := And.left hd
            clear hd
            have q0 := cell_kp hg lt q1
            refine ⟨?_⟩
            simp only [putsFrom, Act.put, List.setIfInBounds_toArray, List.set_cons_zero, List.set_cons_succ, Nat.reduceAdd, d2] at hK ⊢
            go_simp
            exact hK.out _ _ (Kp.refl _) rfl
          case sd4 =>
            intro x u hg hd K hK
            clear hd
            refine ⟨?_⟩
            simp only [putsFrom, Act.put, List.setIfInBounds_toArray, List.set_cons_zero, List.set_cons_succ, Nat.reduceAdd] at hK ⊢
            go_simp
            exact hK.out _ _ (Kp.refl _) rfl
          case sd5 =>
            intro x u hg hd K hK
            have d4 : (x 4) = .pointer (some ⟨rp, 0, none⟩) := And.left hd
            clear hd
            refine ⟨?_⟩
            simp only [putsFrom, Act.put, List.setIfInBounds_toArray, List.set_cons_zero, List.set_cons_succ, Nat.reduceAdd, d4] at hK ⊢
            go_simp
            exact hK.out _ _ (Kp.refl _) rfl
          case sd6 =>
            intro x u hg hd K hK
            have d5 : (x 5) = .pointer (some ⟨rp, 0, none⟩) := And.left hd
            clear hd
            refine ⟨?_⟩
            simp only [putsFrom, Act.put, List.setIfInBounds_toArray, List.set_cons_zero, List.set_cons_succ, Nat.reduceAdd, d5] at hK ⊢
            go_simp
            exact hK.out _ _ (Kp.refl _) rfl
          case sd7 =>
            intro x u hg hd K hK
            have d6 : (x 6) = .pointer (some ⟨rp, 0, none⟩) := And.left hd
            clear hd
            have q0 := cell_kp hg lt q0
            refine ⟨?_⟩
            simp only [putsFrom, Act.put, List.setIfInBounds_toArray, List.set_cons_zero, List.set_cons_succ, Nat.reduceAdd, d6] at hK ⊢
            go_simp
            exact hK.out _ _ (Kp.refl _) rfl
          case sd8 =>
            intro x u hg hd K hK
            have d7 : (x 7) = .slice AL NL cL := And.left hd
            clear hd
            refine ⟨?_⟩
            simp only [putsFrom, Act.put, List.setIfInBounds_toArray, List.set_cons_zero, List.set_cons_succ, Nat.reduceAdd, d7] at hK ⊢
            go_simp
            exact hK.out _ _ (Kp.refl _) rfl
          case sd9 =>
            intro x u hg hd K hK
            have d3 : (x 3) = .int .i64 (n : Int) := And.left hd
            have d8 : (x 8) = .int .i64 (NL : Int) := And.left (And.right hd)
            clear hd
            refine ⟨?_⟩
            simp only [putsFrom, Act.put, List.setIfInBounds_toArray, List.set_cons_zero, List.set_cons_succ, Nat.reduceAdd, d3, d8] at hK ⊢
            go_simp
            exact hK.out _ _ (Kp.refl _) rfl
          case sd10 =>
            intro x u hg hd K hK
            have d9 : (x 9) = .bool false := And.left hd
            clear hd
            refine ⟨?_⟩
            simp only [putsFrom, Act.put, List.setIfInBounds_toArray, List.set_cons_zero, List.set_cons_succ, Nat.reduceAdd, d9] at hK ⊢
            go_simp
            exact hK.out _ _ (Kp.refl _) rfl
          case sd11 =>
            intro x u hg hd K hK
            have d10 : (x 10) = .bool false := And.left hd
            clear hd
            refine ⟨?_⟩
            simp only [putsFrom, Act.put, List.setIfInBounds_toArray, List.set_cons_zero, List.set_cons_succ, Nat.reduceAdd, d10] at hK ⊢
            go_simp
            exact hK.out _ _ (Kp.refl _) rfl
          case sd12 =>
            intro x u hg hd K hK
            have d10 : (x 10) = .bool false := And.left hd
            have d11 : (x 11) = undef := And.left (And.right hd)
            clear hd
            refine ⟨?_⟩
            simp only [putsFrom, Act.put, List.setIfInBounds_toArray, List.set_cons_zero, List.set_cons_succ, Nat.reduceAdd, d10, d11] at hK ⊢
            go_simp
            exact hK.out _ _ (Kp.refl _) rfl
          case sd13 =>
            intro x u hg hd K hK
            have d10 : (x 10) = .bool false := And.left hd
            have d12 : (x 12) = undef := And.left (And.right hd)
            clear hd
            refine ⟨?_⟩
            simp only [putsFrom, Act.put, List.setIfInBounds_toArray, List.set_cons_zero, List.set_cons_succ, Nat.reduceAdd, d10, d12] at hK ⊢
            go_simp
            exact hK.out _ _ (Kp.refl _) rfl
          case sd14 =>
            intro x u hg hd K hK
            have d10 : (x 10) = .bool false := And.left hd
            have d13 : (x 13) = undef := And.left (And.right hd)
            clear hd
            refine ⟨?_⟩
            simp only [putsFrom, Act.put, List.setIfInBounds_toArray, List.set_cons_zero, List.set_cons_succ, Nat.reduceAdd, d10, d13] at hK ⊢
            go_simp
            exact hK.out _ _ (Kp.refl _) rfl
          intro x u hg he
          have d0 : (x 0) = .pointer (some ⟨rp, 0, none⟩) := And.left he
          have d1 : (x 1) = .pointer (some ⟨rp, 0, none⟩) := And.left (And.right he)
          have d2 : (x 2) = .pointer (some ⟨rp, 1, none⟩) := And.left (And.right (And.right he))
          have d3 : (x 3) = .int .i64 (n : Int) := And.left (And.right (And.right (And.right he)))
          have d4 : (x 4) = .pointer (some ⟨rp, 0, none⟩) := And.left (And.right (And.right (And.right (And.right he))))
          have d5 : (x 5) = .pointer (some ⟨rp, 0, none⟩) := And.left (And.right (And.right (And.right (And.right (And.right he)))))
          have d6 : (x 6) = .pointer (some ⟨rp, 0, none⟩) := And.left (And.right (And.right (And.right (And.right (And.right (And.right he))))))
          have d7 : (x 7) = .slice AL NL cL := And.left (And.right (And.right (And.right (And.right (And.right (And.right (And.right he)))))))
          have d8 : (x 8) = .int .i64 (NL : Int) := And.left (And.right (And.right (And.right (And.right (And.right (And.right (And.right (And.right he))))))))
          have d9 : (x 9) = .bool false := And.left (And.right (And.right (And.right (And.right (And.right (And.right (And.right (And.right (And.right he)))))))))
          have d10 : (x 10) = .bool false := And.left (And.right (And.right (And.right (And.right (And.right (And.right (And.right (And.right (And.right (And.right he))))))))))
          have d11 : (x 11) = undef := And.left (And.right (And.right (And.right (And.right (And.right (And.right (And.right (And.right (And.right (And.right (And.right he)))))))))))
          have d12 : (x 12) = undef := And.left (And.right (And.right (And.right (And.right (And.right (And.right (And.right (And.right (And.right (And.right (And.right (And.right he))))))))))))
          have d13 : (x 13) = undef := And.left (And.right (And.right (And.right (And.right (And.right (And.right (And.right (And.right (And.right (And.right (And.right (And.right (And.right he)))))))))))))
          have d14 : (x 14) = .bool false := And.left (And.right (And.right (And.right (And.right (And.right (And.right (And.right (And.right (And.right (And.right (And.right (And.right (And.right (And.right he))))))))))))))
          clear he
          refine ⟨?_⟩
          simp only [putsFrom, Act.put, List.setIfInBounds_toArray, List.set_cons_zero, List.set_cons_succ, Nat.reduceAdd, d0, d1, d2, d3, d4, d5, d6, d7, d8, d9, d10, d11, d12, d13, d14]
          clear d0 d1 d2 d3 d4 d5 d6 d7 d8 d9 d10 d11 d12 d13 d14
          have HS := hid (HS.out.kp hg)
          clear hg lt q0 q1 hlen
          go_wp2_with fail
          exact ⟨⟨g, us ++ [a], r2, A1, c1, HR2.out, by simp, by rw [List.length_append]; exact StT.weak HS.out (by omega)⟩, by rw [HAT.out, HS.out.at_]; omega⟩
        have hpos := List.length_pos_iff.2 r0
        by_cases m6 : kindOf r2 = 6
        · have HR2 := hid (show filesF g (us ++ [a]) r2 = R by rw [← hr, if_pos (.inr m6)])
          clear hr r0
          go_upto_region 5 with (go_at_call 64; go_must (refine (t_kind HS.out).mono ?_); rintro e wn ⟨rfl, hs, hk⟩; rw [ckk]; have HS := hid hs; clear hs hk)
          go_upto_region 6 with (go_at_call 65; go_must (refine (t_want ⟨#[102, 117, 110, 99]⟩ [102, 117, 110, 99] rfl HS.out d).mono ?_); rintro e wn ⟨rfl, hs, hk⟩; have HS := hid hs; clear hs hk)
          have htx := HS.out.text_ok
          go_upto_region 7 with (go_at_call 66; go_must (refine (t_name HS.out n1).mono ?_); rintro e wn ⟨rfl, hs, hk⟩; have HS := hid hs; clear hs hk)
          go_upto_region 8 with first | (go_at_call 67; go_must (refine (((ctr g).fun_ 2 (textOf l'.tail) (by unfold okI; omega) htx HS.out hnu).mono fun _ _ x => Res.ok x hu).mono ?_); rintro e wn ⟨q, rfl, hqq, hs⟩; have HQq := hid hqq; clear hqq; have HS := hid hs; clear hs) | (at_builtin; go_must (refine t_app rfl (.tmp 29) (.tmp 33) rfl (ts := []) (us := us) HS.out HQq.out rfl rfl ?_); intro A1 c1 wn hs; have HS := hid hs; clear hs)
          obtain ⟨W9, hW9⟩ : ∃ x, x = wn := ⟨_, rfl⟩
          subst hW9
          clear hu hnu
          obtain ⟨AL, cL, n, NL, lt, q0, q1, hlen⟩ := HS.out.look1
          have HE := hid (show PrsE W9 rp L r2 (P ++ Na ++ HS.out.choose) _ from HS.out.choose_spec.prs)
          have i1 : (n : Int) < (NL : Int) := by omega
          refine wp_region_kp [[], [0], [1], [2], [], [4], [5], [6], [7], [3, 8], [9], [10], [10, 11], [10, 12], [10, 13]] (fun u => Kp W9 u)
            [fun (y : Value) (u : World) => y = (.pointer (some ⟨rp, 0, none⟩) : Value),
             fun (y : Value) (u : World) => y = (.pointer (some ⟨rp, 0, none⟩) : Value),
             fun (y : Value) (u : World) => y = (.pointer (some ⟨rp, 1, none⟩) : Value),
             fun (y : Value) (u : World) => y = (.int .i64 (n : Int) : Value),
             fun (y : Value) (u : World) => y = (.pointer (some ⟨rp, 0, none⟩) : Value),
             fun (y : Value) (u : World) => y = (.pointer (some ⟨rp, 0, none⟩) : Value),
             fun (y : Value) (u : World) => y = (.pointer (some ⟨rp, 0, none⟩) : Value),
             fun (y : Value) (u : World) => y = (.slice AL NL cL : Value),
             fun (y : Value) (u : World) => y = (.int .i64 (NL : Int) : Value),
             fun (y : Value) (u : World) => y = (.bool true : Value),
             fun (y : Value) (u : World) => y = (.bool true : Value),
             fun (y : Value) (u : World) => y = (.pointer (some ⟨rp, 0, none⟩) : Value),
             fun (y : Value) (u : World) => y = (.int .i64 6 : Value),
             fun (y : Value) (u : World) => y = (.bool false : Value),
             fun (y : Value) (u : World) => y = (.bool false : Value)]
            (by kernel_rfl) (by kernel_rfl) (by kernel_rfl) (by kernel_rfl) ((Kp.refl _).drew) (fun _ _ hk h => h.trans hk) ⟨fun _ _ _ _ h => h, fun _ _ _ _ h => h, fun _ _ _ _ h => h, fun _ _ _ _ h => h, fun _ _ _ _ h => h, fun _ _ _ _ h => h, fun _ _ _ _ h => h, fun _ _ _ _ h => h, fun _ _ _ _ h => h, fun _ _ _ _ h => h, fun _ _ _ _ h => h, fun _ _ _ _ h => h, fun _ _ _ _ h => h, fun _ _ _ _ h => h, fun _ _ _ _ h => h, trivial⟩ ⟨?se0, ?se1, ?se2, ?se3, ?se4, ?se5, ?se6, ?se7, ?se8, ?se9, ?se10, ?se11, ?se12, ?se13, ?se14, trivial⟩ ?hEe
          case se0 =>
            intro x u hg hd K hK
            clear hd
            refine ⟨?_⟩
            simp only [putsFrom, Act.put, List.setIfInBounds_toArray, List.set_cons_zero, List.set_cons_succ, Nat.reduceAdd] at hK ⊢
            go_simp
            exact hK.out _ _ (Kp.refl _) rfl
          case se1 =>
            intro x u hg hd K hK
            have d0 : (x 0) = .pointer (some ⟨rp, 0, none⟩) := And.left hd
            clear hd
            refine ⟨?_⟩
            simp only [putsFrom, Act.put, List.setIfInBounds_toArray, List.set_cons_zero, List.set_cons_succ, Nat.reduceAdd, d0] at hK ⊢
            go_simp
            exact hK.out _ _ (Kp.refl _) rfl
          case se2 =>
            intro x u hg hd K hK
            have d1 : (x 1) = .pointer (some ⟨rp, 0, none⟩) := And.left hd
            clear hd
            refine ⟨?_⟩
            simp only [putsFrom, Act.put, List.setIfInBounds_toArray, List.set_cons_zero, List.set_cons_succ, Nat.reduceAdd, d1] at hK ⊢
            go_simp
            exact hK.out _ _ (Kp.refl _) rfl
          case se3 =>
            intro x u hg hd K hK
            have d2 : (x 2) = .pointer (some ⟨rp, 1, none⟩) := And.left hd
            clear hd
            have q0 := cell_kp hg lt q1
            refine ⟨?_⟩
            simp only [putsFrom, Act.put, List.setIfInBounds_toArray, List.set_cons_zero, List.set_cons_succ, Nat.reduceAdd, d2] at hK ⊢
            go_simp
            exact hK.out _ _ (Kp.refl _) rfl
          case se4 =>
            intro x u hg hd K hK
            clear hd
            refine ⟨?_⟩
            simp only [putsFrom, Act.put, List.setIfInBounds_toArray, List.set_cons_zero, List.set_cons_succ, Nat.reduceAdd] at hK ⊢
            go_simp
            exact hK.out _ _ (Kp.refl _) rfl
          case se5 =>
            intro x u hg hd K hK
            have d4 : (x 4) = .pointer (some ⟨rp, 0, none⟩) := And.left hd
            clear hd
            refine ⟨?_⟩
            simp only [putsFrom, Act.put, List.setIfInBounds_toArray, List.set_cons_zero, List.set_cons_succ, Nat.reduceAdd, d4] at hK ⊢
            go_simp
            exact hK.out _ _ (Kp.refl _) rfl
          case se6 =>
            intro x u hg hd K hK
            have d5 : (x 5) = .pointer (some ⟨rp, 0, none⟩) := And.left hd
            clear hd
            refine ⟨?_⟩
            simp only [putsFrom, Act.put, List.setIfInBounds_toArray, List.set_cons_zero, List.set_cons_succ, Nat.reduceAdd, d5] at hK ⊢
            go_simp
            exact hK.out _ _ (Kp.refl _) rfl
          case se7 =>
            intro x u hg hd K hK
            have d6 : (x 6) = .pointer (some ⟨rp, 0, none⟩) := And.left hd
            clear hd
            have q0 := cell_kp hg lt q0
            refine ⟨?_⟩
            simp only [putsFrom, Act.put, List.setIfInBounds_toArray, List.set_cons_zero, List.set_cons_succ, Nat.reduceAdd, d6] at hK ⊢
            go_simp
            exact hK.out _ _ (Kp.refl _) rfl
          case se8 =>
            intro x u hg hd K hK
            have d7 : (x 7) = .slice AL NL cL := And.left hd
            clear hd
            refine ⟨?_⟩
            simp only [putsFrom, Act.put, List.setIfInBounds_toArray, List.set_cons_zero, List.set_cons_succ, Nat.reduceAdd, d7] at hK ⊢
            go_simp
            exact hK.out _ _ (Kp.refl _) rfl
          case se9 =>
            intro x u hg hd K hK
            have d3 : (x 3) = .int .i64 (n : Int) := And.left hd
            have d8 : (x 8) = .int .i64 (NL : Int) := And.left (And.right hd)
            clear hd
            refine ⟨?_⟩
            simp only [putsFrom, Act.put, List.setIfInBounds_toArray, List.set_cons_zero, List.set_cons_succ, Nat.reduceAdd, d3, d8] at hK ⊢
            go_simp
            exact hK.out _ _ (Kp.refl _) rfl
          case se10 =>
            intro x u hg hd K hK
            have d9 : (x 9) = .bool true := And.left hd
            clear hd
            refine ⟨?_⟩
            simp only [putsFrom, Act.put, List.setIfInBounds_toArray, List.set_cons_zero, List.set_cons_succ, Nat.reduceAdd, d9] at hK ⊢
            go_simp
            exact hK.out _ _ (Kp.refl _) rfl
          case se11 =>
            intro x u hg hd K hK
            have d10 : (x 10) = .bool true := And.left hd
            clear hd
            refine ⟨?_⟩
            simp only [putsFrom, Act.put, List.setIfInBounds_toArray, List.set_cons_zero, List.set_cons_succ, Nat.reduceAdd, d10] at hK ⊢
            go_simp
            exact hK.out _ _ (Kp.refl _) rfl
          case se12 =>
            intro x u hg hd K hK
            have d10 : (x 10) = .bool true := And.left hd
            have d11 : (x 11) = .pointer (some ⟨rp, 0, none⟩) := And.left (And.right hd)
            clear hd
            refine ⟨?_⟩
            simp only [putsFrom, Act.put, List.setIfInBounds_toArray, List.set_cons_zero, List.set_cons_succ, Nat.reduceAdd, d10, d11] at hK ⊢
            go_simp
            go_at_call 64
            have hc := (kind_any u rp (HE.out.kp hg))
            refine hc.mono ?_
            clear hc
            rintro e u' ⟨rfl, hk9⟩
            dsimp only
            exact hK.out _ _ hk9 (by rw [m6]; rfl)
          case se13 =>
            intro x u hg hd K hK
            have d10 : (x 10) = .bool true := And.left hd
            have d12 : (x 12) = .int .i64 6 := And.left (And.right hd)
            clear hd
            refine ⟨?_⟩
            simp only [putsFrom, Act.put, List.setIfInBounds_toArray, List.set_cons_zero, List.set_cons_succ, Nat.reduceAdd, d10, d12] at hK ⊢
            go_simp
            exact hK.out _ _ (Kp.refl _) rfl
          case se14 =>
            intro x u hg hd K hK
            have d10 : (x 10) = .bool true := And.left hd
            have d13 : (x 13) = .bool false := And.left (And.right hd)
            clear hd
            refine ⟨?_⟩
            simp only [putsFrom, Act.put, List.setIfInBounds_toArray, List.set_cons_zero, List.set_cons_succ, Nat.reduceAdd, d10, d13] at hK ⊢
            go_simp
            exact hK.out _ _ (Kp.refl _) rfl
          intro x u hg he
          have d0 : (x 0) = .pointer (some ⟨rp, 0, none⟩) := And.left he
          have d1 : (x 1) = .pointer (some ⟨rp, 0, none⟩) := And.left (And.right he)
          have d2 : (x 2) = .pointer (some ⟨rp, 1, none⟩) := And.left (And.right (And.right he))
          have d3 : (x 3) = .int .i64 (n : Int) := And.left (And.right (And.right (And.right he)))
          have d4 : (x 4) = .pointer (some ⟨rp, 0, none⟩) := And.left (And.right (And.right (And.right (And.right he))))
          have d5 : (x 5) = .pointer (some ⟨rp, 0, none⟩) := And.left (And.right (And.right (And.right (And.right (And.right he)))))
          have d6 : (x 6) = .pointer (some ⟨rp, 0, none⟩) := And.left (And.right (And.right (And.right (And.right (And.right (And.right he))))))
          have d7 : (x 7) = .slice AL NL cL := And.left (And.right (And.right (And.right (And.right (And.right (And.right (And.right he)))))))
          have d8 : (x 8) = .int .i64 (NL : Int) := And.left (And.right (And.right (And.right (And.right (And.right (And.right (And.right (And.right he))))))))
          have d9 : (x 9) = .bool true := And.left (And.right (And.right (And.right (And.right (And.right (And.right (And.right (And.right (And.right he)))))))))
          have d10 : (x 10) = .bool true := And.left (And.right (And.right (And.right (And.right (And.right (And.right (And.right (And.right (And.right (And.right he))))))))))
          have d11 : (x 11) = .pointer (some ⟨rp, 0, none⟩) := And.left (And.right (And.right (And.right (And.right (And.right (And.right (And.right (And.right (And.right (And.right (And.right he)))))))))))
          have d12 : (x 12) = .int .i64 6 := And.left (And.right (And.right (And.right (And.right (And.right (And.right (And.right (And.right (And.right (And.right (And.right (And.right he))))))))))))
          have d13 : (x 13) = .bool false := And.left (And.right (And.right (And.right (And.right (And.right (And.right (And.right (And.right (And.right (And.right (And.right (And.right (And.right he)))))))))))))
          have d14 : (x 14) = .bool false := And.left (And.right (And.right (And.right (And.right (And.right (And.right (And.right (And.right (And.right (And.right (And.right (And.right (And.right (And.right he))))))))))))))
          clear he
          refine ⟨?_⟩
          simp only [putsFrom, Act.put, List.setIfInBounds_toArray, List.set_cons_zero, List.set_cons_succ, Nat.reduceAdd, d0, d1, d2, d3, d4, d5, d6, d7, d8, d9, d10, d11, d12, d13, d14]
          clear d0 d1 d2 d3 d4 d5 d6 d7 d8 d9 d10 d11 d12 d13 d14
          have HS := hid (HS.out.kp hg)
          clear hg lt q0 q1 hlen
          go_wp2_with fail
          exact ⟨⟨g, us ++ [a], r2, A1, c1, HR2.out, by simp, by rw [List.length_append]; exact StT.weak HS.out (by omega)⟩, by rw [HAT.out, HS.out.at_]; omega⟩
        have HT := hid (show Pr.bad = R by rw [← hr, if_neg (by rintro (h | h); exact r0 h; exact m6 h)])
        clear hr
        obtain ⟨mm, cmm⟩ : ∃ mm, kindOf r2 = mm := ⟨_, rfl⟩
        have w1 : (mm == 6) = false := by rw [beq_eq_false_iff_ne]; rw [← cmm]; exact m6
        have w2 : (mm != 6) = true := by rw [bne_iff_ne]; rw [← cmm]; exact m6
        clear r0 m6
        go_upto_region 5 with (go_at_call 64; go_must (refine (t_kind HS.out).mono ?_); rintro e wn ⟨rfl, hs, hk⟩; rw [ckk]; have HS := hid hs; clear hs hk)
        go_upto_region 6 with (go_at_call 65; go_must (refine (t_want ⟨#[102, 117, 110, 99]⟩ [102, 117, 110, 99] rfl HS.out d).mono ?_); rintro e wn ⟨rfl, hs, hk⟩; have HS := hid hs; clear hs hk)
        have htx := HS.out.text_ok
        go_upto_region 7 with (go_at_call 66; go_must (refine (t_name HS.out n1).mono ?_); rintro e wn ⟨rfl, hs, hk⟩; have HS := hid hs; clear hs hk)
        go_upto_region 8 with first | (go_at_call 67; go_must (refine (((ctr g).fun_ 2 (textOf l'.tail) (by unfold okI; omega) htx HS.out hnu).mono fun _ _ x => Res.ok x hu).mono ?_); rintro e wn ⟨q, rfl, hqq, hs⟩; have HQq := hid hqq; clear hqq; have HS := hid hs; clear hs) | (at_builtin; go_must (refine t_app rfl (.tmp 29) (.tmp 33) rfl (ts := []) (us := us) HS.out HQq.out rfl rfl ?_); intro A1 c1 wn hs; have HS := hid hs; clear hs)
        obtain ⟨W9, hW9⟩ : ∃ x, x = wn := ⟨_, rfl⟩
        subst hW9
        clear hu hnu
        obtain ⟨AL, cL, n, NL, lt, q0, q1, hlen⟩ := HS.out.look1
        have HE := hid (show PrsE W9 rp L r2 (P ++ Na ++ HS.out.choose) _ from HS.out.choose_spec.prs)
        have i1 : (n : Int) < (NL : Int) := by omega
        refine wp_region_kp [[], [0], [1], [2], [], [4], [5], [6], [7], [3, 8], [9], [10], [10, 11], [10, 12], [10, 13]] (fun u => Kp W9 u)
          [fun (y : Value) (u : World) => y = (.pointer (some ⟨rp, 0, none⟩) : Value),
           fun (y : Value) (u : World) => y = (.pointer (some ⟨rp, 0, none⟩) : Value),
           fun (y : Value) (u : World) => y = (.pointer (some ⟨rp, 1, none⟩) : Value),
           fun (y : Value) (u : World) => y = (.int .i64 (n : Int) : Value),
           fun (y : Value) (u : World) => y = (.pointer (some ⟨rp, 0, none⟩) : Value),
           fun (y : Value) (u : World) => y = (.pointer (some ⟨rp, 0, none⟩) : Value),
           fun (y : Value) (u : World) => y = (.pointer (some ⟨rp, 0, none⟩) : Value),
           fun (y : Value) (u : World) => y = (.slice AL NL cL : Value),
           fun (y : Value) (u : World) => y = (.int .i64 (NL : Int) : Value),
           fun (y : Value) (u : World) => y = (.bool true : Value),
           fun (y : Value) (u : World) => y = (.bool true : Value),
           fun (y : Value) (u : World) => y = (.pointer (some ⟨rp, 0, none⟩) : Value),
           fun (y : Value) (u : World) => y = (.int .i64 mm : Value),
           fun (y : Value) (u : World) => y = (.bool true : Value),
           fun (y : Value) (u : World) => y = (.bool true : Value)]
          (by kernel_rfl) (by kernel_rfl) (by kernel_rfl) (by kernel_rfl) ((Kp.refl _).drew) (fun _ _ hk h => h.trans hk) ⟨fun _ _ _ _ h => h, fun _ _ _ _ h => h, fun _ _ _ _ h => h, fun _ _ _ _ h => h, fun _ _ _ _ h => h, fun _ _ _ _ h => h, fun _ _ _ _ h => h, fun _ _ _ _ h => h, fun _ _ _ _ h => h, fun _ _ _ _ h => h, fun _ _ _ _ h => h, fun _ _ _ _ h => h, fun _ _ _ _ h => h, fun _ _ _ _ h => h, fun _ _ _ _ h => h, trivial⟩ ⟨?sf0, ?sf1, ?sf2, ?sf3, ?sf4, ?sf5, ?sf6, ?sf7, ?sf8, ?sf9, ?sf10, ?sf11, ?sf12, ?sf13, ?sf14, trivial⟩ ?hEf
        case sf0 =>
          intro x u hg hd K hK
          clear hd
          refine ⟨?_⟩
          simp only [putsFrom, Act.put, List.setIfInBounds_toArray, List.set_cons_zero, List.set_cons_succ, Nat.reduceAdd] at hK ⊢
          go_simp
          exact hK.out _ _ (Kp.refl _) rfl
        case sf1 =>
          intro x u hg hd K hK
          have d0 : (x 0) = .pointer (some ⟨rp, 0, none⟩) := And.left hd
          clear hd
          refine ⟨?_⟩
          simp only [putsFrom, Act.put, List.setIfInBounds_toArray, List.set_cons_zero, List.set_cons_succ, Nat.reduceAdd, d0] at hK ⊢
          go_simp
          exact hK.out _ _ (Kp.refl _) rfl
        case sf2 =>
          intro x u hg hd K hK
          have d1 : (x 1) = .pointer (some ⟨rp, 0, none⟩) := And.left hd
          clear hd
          refine ⟨?_⟩
          simp only [putsFrom, Act.put, List.setIfInBounds_toArray, List.set_cons_zero, List.set_cons_succ, Nat.reduceAdd, d1] at hK ⊢
          go_simp
          exact hK.out _ _ (Kp.refl _) rfl
        case sf3 =>
          intro x u hg hd K hK
          have d2 : (x 2) = .pointer (some ⟨rp, 1, none⟩) := And.left hd
          clear hd
          have q0 := cell_kp hg lt q1
          refine ⟨?_⟩
          simp only [putsFrom, Act.put, List.setIfInBounds_toArray, List.set_cons_zero, List.set_cons_succ, Nat.reduceAdd, d2] at hK ⊢
          go_simp
          exact hK.out _ _ (Kp.refl _) rfl
        case sf4 =>
          intro x u hg hd K hK
          clear hd
          refine ⟨?_⟩
          simp only [putsFrom, Act.put, List.setIfInBounds_toArray, List.set_cons_zero, List.set_cons_succ, Nat.reduceAdd] at hK ⊢
          go_simp
          exact hK.out _ _ (Kp.refl _) rfl
        case sf5 =>
          intro x u hg hd K hK
          have d4 : (x 4) = .pointer (some ⟨rp, 0, none⟩) := And.left hd
          clear hd
          refine ⟨?_⟩
          simp only [putsFrom, Act.put, List.setIfInBounds_toArray, List.set_cons_zero, List.set_cons_succ, Nat.reduceAdd, d4] at hK ⊢
          go_simp
          exact hK.out _ _ (Kp.refl _) rfl
        case sf6 =>
          intro x u hg hd K hK
          have d5 : (x 5) = .pointer (some ⟨rp, 0, none⟩) := And.left hd
          clear hd
          refine ⟨?_⟩
          simp only [putsFrom, Act.put, List.setIfInBounds_toArray, List.set_cons_zero, List.set_cons_succ, Nat.reduceAdd, d5] at hK ⊢
          go_simp
          exact hK.out _ _ (Kp.refl _) rfl
        case sf7 =>
          intro x u hg hd K hK
          have d6 : (x 6) = .pointer (some ⟨rp, 0, none⟩) := And.left hd
          clear hd
          have q0 := cell_kp hg lt q0
          refine ⟨?_⟩
          simp only [putsFrom, Act.put, List.setIfInBounds_toArray, List.set_cons_zero, List.set_cons_succ, Nat.reduceAdd, d6] at hK ⊢
          go_simp
          exact hK.out _ _ (Kp.refl _) rfl
        case sf8 =>
          intro x u hg hd K hK
          have d7 : (x 7) = .slice AL NL cL := And.left hd
          clear hd
          refine ⟨?_⟩
          simp only [putsFrom, Act.put, List.setIfInBounds_toArray, List.set_cons_zero, List.set_cons_succ, Nat.reduceAdd, d7] at hK ⊢
          go_simp
          exact hK.out _ _ (Kp.refl _) rfl
        case sf9 =>
          intro x u hg hd K hK
          have d3 : (x 3) = .int .i64 (n : Int) := And.left hd
          have d8 : (x 8) = .int .i64 (NL : Int) := And.left (And.right hd)
          clear hd
          refine ⟨?_⟩
          simp only [putsFrom, Act.put, List.setIfInBounds_toArray, List.set_cons_zero, List.set_cons_succ, Nat.reduceAdd, d3, d8] at hK ⊢
          go_simp
          exact hK.out _ _ (Kp.refl _) rfl
        case sf10 =>
          intro x u hg hd K hK
          have d9 : (x 9) = .bool true := And.left hd
          clear hd
          refine ⟨?_⟩
          simp only [putsFrom, Act.put, List.setIfInBounds_toArray, List.set_cons_zero, List.set_cons_succ, Nat.reduceAdd, d9] at hK ⊢
          go_simp
          exact hK.out _ _ (Kp.refl _) rfl
        case sf11 =>
          intro x u hg hd K hK
          have d10 : (x 10) = .bool true := And.left hd
          clear hd
          refine ⟨?_⟩
          simp only [putsFrom, Act.put, List.setIfInBounds_toArray, List.set_cons_zero, List.set_cons_succ, Nat.reduceAdd, d10] at hK ⊢
          go_simp
          exact hK.out _ _ (Kp.refl _) rfl
        case sf12 =>
          intro x u hg hd K hK
          have d10 : (x 10) = .bool true := And.left hd
          have d11 : (x 11) = .pointer (some ⟨rp, 0, none⟩) := And.left (And.right hd)
          clear hd
          refine ⟨?_⟩
          simp only [putsFrom, Act.put, List.setIfInBounds_toArray, List.set_cons_zero, List.set_cons_succ, Nat.reduceAdd, d10, d11] at hK ⊢
          go_simp
          go_at_call 64
          have hc := (kind_any u rp (HE.out.kp hg))
          refine hc.mono ?_
          clear hc
          rintro e u' ⟨rfl, hk9⟩
          dsimp only
          exact hK.out _ _ hk9 (by rw [cmm]; rfl)
        case sf13 =>
          intro x u hg hd K hK
          have d10 : (x 10) = .bool true := And.left hd
          have d12 : (x 12) = .int .i64 mm := And.left (And.right hd)
          clear hd
          refine ⟨?_⟩
          simp only [putsFrom, Act.put, List.setIfInBounds_toArray, List.set_cons_zero, List.set_cons_succ, Nat.reduceAdd, d10, d12] at hK ⊢
          go_simp
          exact hK.out _ _ (Kp.refl _) rfl
        case sf14 =>
          intro x u hg hd K hK
          have d10 : (x 10) = .bool true := And.left hd
          have d13 : (x 13) = .bool true := And.left (And.right hd)
          clear hd
          refine ⟨?_⟩
          simp only [putsFrom, Act.put, List.setIfInBounds_toArray, List.set_cons_zero, List.set_cons_succ, Nat.reduceAdd, d10, d13] at hK ⊢
          go_simp
          exact hK.out _ _ (Kp.refl _) rfl
        intro x u hg he
        have d0 : (x 0) = .pointer (some ⟨rp, 0, none⟩) := And.left he
        have d1 : (x 1) = .pointer (some ⟨rp, 0, none⟩) := And.left (And.right he)
        have d2 : (x 2) = .pointer (some ⟨rp, 1, none⟩) := And.left (And.right (And.right he))
        have d3 : (x 3) = .int .i64 (n : Int) := And.left (And.right (And.right (And.right he)))
        have d4 : (x 4) = .pointer (some ⟨rp, 0, none⟩) := And.left (And.right (And.right (And.right (And.right he))))
        have d5 : (x 5) = .pointer (some ⟨rp, 0, none⟩) := And.left (And.right (And.right (And.right (And.right (And.right he)))))
        have d6 : (x 6) = .pointer (some ⟨rp, 0, none⟩) := And.left (And.right (And.right (And.right (And.right (And.right (And.right he))))))
        have d7 : (x 7) = .slice AL NL cL := And.left (And.right (And.right (And.right (And.right (And.right (And.right (And.right he)))))))
        have d8 : (x 8) = .int .i64 (NL : Int) := And.left (And.right (And.right (And.right (And.right (And.right (And.right (And.right (And.right he))))))))
        have d9 : (x 9) = .bool true := And.left (And.right (And.right (And.right (And.right (And.right (And.right (And.right (And.right (And.right he)))))))))
        have d10 : (x 10) = .bool true := And.left (And.right (And.right (And.right (And.right (And.right (And.right (And.right (And.right (And.right (And.right he))))))))))
        have d11 : (x 11) = .pointer (some ⟨rp, 0, none⟩) := And.left (And.right (And.right (And.right (And.right (And.right (And.right (And.right (And.right (And.right (And.right (And.right he)))))))))))
        have d12 : (x 12) = .int .i64 mm := And.left (And.right (And.right (And.right (And.right (And.right (And.right (And.right (And.right (And.right (And.right (And.right (And.right he))))))))))))
        have d13 : (x 13) = .bool true := And.left (And.right (And.right (And.right (And.right (And.right (And.right (And.right (And.right (And.right (And.right (And.right (And.right (And.right he)))))))))))))
        have d14 : (x 14) = .bool true := And.left (And.right (And.right (And.right (And.right (And.right (And.right (And.right (And.right (And.right (And.right (And.right (And.right (And.right (And.right he))))))))))))))
        clear he
        refine ⟨?_⟩
        simp only [putsFrom, Act.put, List.setIfInBounds_toArray, List.set_cons_zero, List.set_cons_succ, Nat.reduceAdd, d0, d1, d2, d3, d4, d5, d6, d7, d8, d9, d10, d11, d12, d13, d14]
        clear d0 d1 d2 d3 d4 d5 d6 d7 d8 d9 d10 d11 d12 d13 d14
        have HS := hid (HS.out.kp hg)
        clear hg lt q0 q1 hlen
        go_wp2_with (go_at_call 68; go_must (refine (fail_any _ _).mono ?_); rintro e wn ⟨rfl, hk⟩; unfold stopP; have HB := hid (HS.out.belowK hk); clear hk)
        rw [← HT.out]
        exact ⟨rfl, rfl, HB.out⟩
end Go.Proofs.Ytgonekmmbeedeaa.Pa
namespace Go.Proofs.Ytgonekmmbeedeaa.Pa
open Go.RowKit
set_option linter.unusedVariables false
set_option linter.unusedSimpArgs false

def opens : List Bs := [[40], [91], [123]]
def shuts : List Bs := [[41], [93], [125]]
/-- How many brackets are open behind a token. -/
def nestT (n : Nat) (t : Tk) : Nat := if t.1 = 4 then (if opens.contains t.2.data.toList then n + 1 else if shuts.contains t.2.data.toList then n - 1 else n) else n
def deepM : Nat → List Tk → Bool
  | _, [] => false
  | n, t :: r => if 40 < nestT n t then true else deepM (nestT n t) r
theorem strI (S : ByteArray) (b : Bs) : (S.toList == b) = (S.data.toList == b) := by rw [ByteArray.toList_eq]
set_option maxRecDepth 20000 in
set_option maxHeartbeats 16000000 in
theorem deep_any (w : World) (v : Value) (L : List TokenM) (h : RdL CeToken 4 w v L) (hL : L.length ≤ 2000) : Calls Try.prog 40 #[v] w fun e w' => e = .returned (.bool (deepM 0 (L.map tkOf))) ∧ Kp w w' := by
  have H := hid h
  obtain ⟨A, c, rfl, _⟩ := h.form
  clear h
  generalize hR : deepM 0 (L.map tkOf) = R
  have HR := hid hR
  clear hR
  go_enter Try.func40, Try.ntmps40
  go_wp2_with fail
  go_loopw [3, 5, 8, 17, 23] (fun nv _ i _ _ wr => ∃ k m : Nat, k ≤ L.length ∧ i = .int .i64 (k : Int) ∧ nv = .int .i64 (m : Int) ∧ m ≤ 40 ∧ deepM m ((L.drop k).map tkOf) = R ∧ Kp w wr) (fun _ _ i _ _ _ => L.length - (intOf i).toNat)
  case atStart => exact ⟨0, 0, by omega, rfl, rfl, by omega, HR.out, Kp.refl _⟩
  case round =>
    obtain ⟨k, m, hk, rfl, rfl, hm, hr, hkr⟩ := hrel
    have HKR := hid hkr
    clear HR
    by_cases hlt : k < L.length
    · have i1 : (k : Int) < (L.length : Int) := by omega
      obtain ⟨t, ht⟩ : ∃ t, L[k]? = some t := ⟨_, List.getElem?_eq_getElem hlt⟩
      obtain ⟨b, off, rfl, hbl, e0, e1, e2, e3, _⟩ := at_token (H.out.kp CeToken.kp hkr) ht
      have k1 : IntKind.i64.wrap ((k : Int) + 1) = (k : Int) + 1 := by rw [IntKind.wrap_i64]; omega
      have k2 : IntKind.i64.wrap ((m : Int) + 1) = (m : Int) + 1 := by rw [IntKind.wrap_i64]; omega
      have k3 : IntKind.i64.wrap ((m : Int) - 1) = (m : Int) - 1 := by rw [IntKind.wrap_i64]; omega
      rw [List.drop_eq_getElem_cons hlt, List.map_cons, deepM] at hr
      have hte : L[k] = t := by rw [List.getElem?_eq_getElem hlt] at ht; exact Option.some.inj ht
      rw [hte] at hr
      have HKA := hid (hkr.alloc (.cells #[.int .i64 t.kind, .string t.text, .int .i64 t.line, .int .i64 t.col] 119))
      clear ht hte hkr
      obtain ⟨tk, tx, tl, tc⟩ := t
      unfold nestT tkOf at hr
      simp only at hr e0 e1 e2 e3 HKA
      by_cases h4 : tk = 4
      · subst h4
        rw [if_pos rfl] at hr
        by_cases ho : tx.data.toList ∈ opens
        · rw [if_pos (List.contains_iff_mem.2 ho)] at hr
          simp only [opens, List.mem_cons, List.not_mem_nil, or_false] at ho
          have htx : tx = sB tx.data.toList := by unfold sB; cases tx; rfl
          rcases ho with hb | hb | hb
          all_goals
            rw [hb] at htx
            subst htx
            unfold sB at e1 HKA
            clear hb
            by_cases hm40 : 40 < m + 1
            · rw [if_pos hm40] at hr
              have i3 : (40 : Int) < (m : Int) + 1 := by omega
              have HR2 := hid hr
              clear hr
              go_wp2
              go_ret
              exact ⟨by rw [← HR2.out]; rfl, HKA.out⟩
            · rw [if_neg hm40] at hr
              have i3 : ¬ (40 : Int) < (m : Int) + 1 := by omega
              have HR2 := hid hr
              clear hr
              go_wp2
              exact ⟨⟨k + 1, m + 1, hlt, by congr 1, by congr 1, by omega, HR2.out, HKA.out⟩, by simp only [intOf, Int.toNat_natCast]; omega⟩
        · by_cases hs : tx.data.toList ∈ shuts
          · rw [if_neg (show ¬ opens.contains tx.data.toList = true by rw [List.contains_iff_mem]; exact ho), if_pos (List.contains_iff_mem.2 hs)] at hr
            simp only [shuts, List.mem_cons, List.not_mem_nil, or_false] at hs
            have htx : tx = sB tx.data.toList := by unfold sB; cases tx; rfl
            rcases hs with hb | hb | hb
            all_goals
              rw [hb] at htx
              subst htx
              unfold sB at e1 HKA
              clear hb ho
              rw [if_neg (show ¬ 40 < m - 1 by omega)] at hr
              have HR2 := hid hr
              clear hr
              have i3 : max ((m : Int) - 1) 0 = ((m - 1 : Nat) : Int) := by omega
              have i4 : ¬ (40 : Int) < ((m - 1 : Nat) : Int) := by omega
              generalize m - 1 = m2 at i3 i4 HR2
              go_wp2
              exact ⟨⟨k + 1, m2, hlt, by congr 1, by congr 1, by omega, HR2.out, HKA.out⟩, by simp only [intOf, Int.toNat_natCast]; omega⟩
          · rw [if_neg (show ¬ opens.contains tx.data.toList = true by rw [List.contains_iff_mem]; exact ho), if_neg (show ¬ shuts.contains tx.data.toList = true by rw [List.contains_iff_mem]; exact hs), if_neg (show ¬ 40 < m by omega)] at hr
            have HR2 := hid hr
            clear hr
            have z0 := str_ne (S := tx) (b := [40]) (fun e => ho (by rw [e]; decide))
            have z1 := str_ne (S := tx) (b := [91]) (fun e => ho (by rw [e]; decide))
            have z2 := str_ne (S := tx) (b := [123]) (fun e => ho (by rw [e]; decide))
            have z3 := str_ne (S := tx) (b := [41]) (fun e => hs (by rw [e]; decide))
            have z4 := str_ne (S := tx) (b := [93]) (fun e => hs (by rw [e]; decide))
            have z5 := str_ne (S := tx) (b := [125]) (fun e => hs (by rw [e]; decide))
            have i3 : ¬ (40 : Int) < (m : Int) := by omega
            clear ho hs
            go_wp2
            exact ⟨⟨k + 1, m, hlt, by congr 1, rfl, hm, HR2.out, HKA.out⟩, by simp only [intOf, Int.toNat_natCast]; omega⟩
      · have t1 : (tk != 4) = true := by rw [bne_iff_ne]; exact h4
        have t2 : (tk == 4) = false := by rw [beq_eq_false_iff_ne]; exact h4
        rw [if_neg h4, if_neg (by omega)] at hr
        have HR2 := hid hr
        clear hr
        go_wp2
        exact ⟨⟨k + 1, m, hlt, by congr 1, rfl, hm, HR2.out, HKA.out⟩, by simp only [intOf, Int.toNat_natCast]; omega⟩
    · have i1 : ¬ (k : Int) < (L.length : Int) := by omega
      rw [List.drop_eq_nil_of_le (by omega)] at hr
      have HR2 := hid hr
      clear hr
      go_wp2
      go_ret
      exact ⟨by rw [← HR2.out]; rfl, HKR.out⟩
end Go.Proofs.Ytgonekmmbeedeaa.Pa
namespace Go.Proofs.Ytgonekmmbeedeaa.Pa
open Go.RowKit
set_option linter.unusedVariables false
set_option linter.unusedSimpArgs false

/-- The two results of Parse, in memory. -/
structure ResA (w : World) (b0 b1 : Nat) (v : Value) (s : Array Value) : Prop where
  a : w.heap[b0]? = some (.cells #[v] 46 (0, 0))
  b : w.heap[b1]? = some (.cells s 48 (0, 0))
theorem ResA.kp {w w' : World} {b0 b1 : Nat} {v : Value} {s : Array Value} (h : ResA w b0 b1 v s) (hk : Kp w w') : ResA w' b0 b1 v s := ⟨(hk.block b0 (blk_lt h.a)).trans h.a, (hk.block b1 (blk_lt h.b)).trans h.b⟩
theorem ResA.below {B : Nat} {w w' : World} {b0 b1 : Nat} {v : Value} {s : Array Value} (h : ResA w b0 b1 v s) (hk : Below B w w') (h0 : b0 < B) (h1 : b1 < B) : ResA w' b0 b1 v s := ⟨(hk.block b0 h0).trans h.a, (hk.block b1 h1).trans h.b⟩
theorem ResA.set0 {w : World} {b0 b1 : Nat} {v : Value} {s : Array Value} (h : ResA w b0 b1 v s) (hn : b0 ≠ b1) (v2 : Value) : ResA (w.setCell ⟨b0, 0, none⟩ v2) b0 b1 v2 s := ⟨blk_set h.a _, (blk_far (p := ⟨b0, 0, none⟩) (fun e => hn e.symm) _).trans h.b⟩
theorem ResA.set1 {w : World} {b0 b1 : Nat} {v x y z : Value} (h : ResA w b0 b1 v #[x, y, z]) (hn : b0 ≠ b1) (x2 y2 z2 : Value) : ResA (((w.setCell ⟨b1, 0, none⟩ x2).setCell ⟨b1, 1, none⟩ y2).setCell ⟨b1, 2, none⟩ z2) b0 b1 v #[x2, y2, z2] :=
  ⟨(blk_far (p := ⟨b1, 2, none⟩) hn _).trans ((blk_far (p := ⟨b1, 1, none⟩) hn _).trans ((blk_far (p := ⟨b1, 0, none⟩) hn _).trans h.a)), blk_set (blk_set (blk_set h.b _) _) _⟩
@[go_sem] theorem field_stop (x0 : Value) (w : World) : Sem.run Try.prog (Instr.field 90 (.agg #[x0]) 0) w = .ok x0 w := by kernel_rfl
theorem rep8 : Array.replicate 8 undef = #[undef, undef, undef, undef, undef, undef, undef, undef] := rfl
set_option maxRecDepth 20000 in
set_option maxHeartbeats 4000000 in
theorem catch_stopP (w : World) (B b0 b1 : Nat) (v0 x0 y0 z0 : Value) (hr : ResA w b0 b1 v0 #[x0, y0, z0]) (hn : b0 ≠ b1) (h0 : B ≤ b0) (h1 : B ≤ b1) (older : List PanicEntry) :
    CallsD Try.prog 41 #[.pointer (some ⟨b0, 0, none⟩), .pointer (some ⟨b1, 0, none⟩)] (.panicking ({ v := .iface 90 (.agg #[.int .i64 6]), recovered := false } :: older)) w fun e u' w' =>
      e = .returned (.tuple #[]) ∧ u' = .panicking ({ v := .iface 90 (.agg #[.int .i64 6]), recovered := true } :: older) ∧ ResA w' b0 b1 (.slice none 0 0) #[.int .i64 6, .int .i64 0, .int .i64 0] ∧ Below B w w' := by
  refine callsD_of_wpS Try.func41 rfl fun c₀ cs hu => ?_
  apply wpS_seq
  apply wpS_region
  simp [wpOpsS, go_sem, recoverD, hu, Try.ntmps41, Exit.thenS, rep8]
  apply wpS_seq
  apply wpS_region
  simp [wpOpsS, go_sem, Exit.thenS]
  refine wpS_cond (t := true) (by simp [Act.eval]) ?_
  simp only [if_true]
  refine wpS_of_wp ?_
  have HR := hid hr
  have HB0 := hid (blk_lt hr.a); have HB1 := hid (blk_lt hr.b)
  clear hr
  refine wp_region_phase [4, 5] [(0, 1), (0, 1), (0, 1), (0, 1), (0, 0), (0, 0)] (fun _ _ => True) [[], [0], [1], [2], [], [3, 4]]
    (fun (p : Nat) (x : Nat → Value) (u : World) => match p with | 0 => Kp w u | 1 => ResA u b0 b1 (.slice none 0 0) #[x0, y0, z0] ∧ Below B w u | _ => ResA u b0 b1 (.slice none 0 0) #[.int .i64 6, .int .i64 0, .int .i64 0] ∧ Below B w u)
    [fun (y : Value) (u : World) => y = (.iface 90 (.agg #[.int .i64 6]) : Value),
     fun (y : Value) (u : World) => y = (.agg #[.int .i64 6] : Value),
     fun (y : Value) (u : World) => y = (.int .i64 6 : Value),
     fun (y : Value) (u : World) => y = (.agg #[.int .i64 6, .int .i64 0, .int .i64 0] : Value),
     fun (y : Value) (u : World) => True,
     fun (y : Value) (u : World) => True]
    (by kernel_rfl) (by kernel_rfl) (by kernel_rfl) (by kernel_rfl) (by kernel_rfl) (by kernel_rfl) (fun _ _ _ => trivial) ((Kp.refl w).drew) ?hKg ?hXg ⟨fun _ _ _ _ h => h, fun _ _ _ _ h => h, fun _ _ _ _ h => h, fun _ _ _ _ h => h, fun _ _ _ _ _ => trivial, fun _ _ _ _ _ => trivial, trivial⟩ ⟨?sg0, ?sg1, ?sg2, ?sg3, ?sg4, ?sg5, trivial⟩ ?hEg
  case hKg =>
    intro p x w w' hk h
    rcases p with _ | _ | p
    · exact h.trans hk
    · exact ⟨h.1.kp hk, Below.trans h.2 (Below.mono hk (Nat.le_trans (Nat.le_trans h0 (Nat.le_of_lt HB0.out)) h.2.size))⟩
    · exact ⟨h.1.kp hk, Below.trans h.2 (Below.mono hk (Nat.le_trans (Nat.le_trans h0 (Nat.le_of_lt HB0.out)) h.2.size))⟩
  case hXg =>
    intro p x i v w hi h
    have e0 : upd x i v 4 = x 4 := if_neg (fun hh => hi (by rw [← hh]; decide))
    have e1 : upd x i v 5 = x 5 := if_neg (fun hh => hi (by rw [← hh]; decide))
    rcases p with _ | _ | p
    · first | exact h | (simp only [e0, e1]; exact h)
    · first | exact h | (simp only [e0, e1]; exact h)
    · first | exact h | (simp only [e0, e1]; exact h)
  case sg0 =>
    refine OpStepQ.off 0 1 (by kernel_rfl) (by kernel_rfl) ?_
    intro x u p hp hg hd K hK
    clear hd
    refine ⟨?_⟩
    simp only [putsFrom, Act.put, List.setIfInBounds_toArray, List.set_cons_zero, List.set_cons_succ, Nat.reduceAdd] at hK ⊢
    go_simp
    exact hK.out _ _ (Kp.refl _) rfl
  case sg1 =>
    refine OpStepQ.off 0 1 (by kernel_rfl) (by kernel_rfl) ?_
    intro x u p hp hg hd K hK
    have d0 : (x 0) = .iface 90 (.agg #[.int .i64 6]) := And.left hd
    clear hd
    refine ⟨?_⟩
    simp only [putsFrom, Act.put, List.setIfInBounds_toArray, List.set_cons_zero, List.set_cons_succ, Nat.reduceAdd, d0] at hK ⊢
    go_simp
    exact hK.out _ _ (Kp.refl _) rfl
  case sg2 =>
    refine OpStepQ.off 0 1 (by kernel_rfl) (by kernel_rfl) ?_
    intro x u p hp hg hd K hK
    have d1 : (x 1) = .agg #[.int .i64 6] := And.left hd
    clear hd
    refine ⟨?_⟩
    simp only [putsFrom, Act.put, List.setIfInBounds_toArray, List.set_cons_zero, List.set_cons_succ, Nat.reduceAdd, d1] at hK ⊢
    go_simp
    exact hK.out _ _ (Kp.refl _) rfl
  case sg3 =>
    refine OpStepQ.off 0 1 (by kernel_rfl) (by kernel_rfl) ?_
    intro x u p hp hg hd K hK
    have d2 : (x 2) = .int .i64 6 := And.left hd
    clear hd
    refine ⟨?_⟩
    simp only [putsFrom, Act.put, List.setIfInBounds_toArray, List.set_cons_zero, List.set_cons_succ, Nat.reduceAdd, d2] at hK ⊢
    go_simp
    exact hK.out _ _ (Kp.refl _) rfl
  case sg4 =>
    refine OpStepQ.on 0 (by kernel_rfl) (by kernel_rfl) ?_
    intro x u hg hd K hK
    change Kp w u at hg
    clear hd
    have hru := HR.out.kp hg
    have HRU := hid hru
    have HGG := hid hg
    have q0 : u.cell? ⟨b0, 0, none⟩ = some v0 := blk_cell hru.a rfl
    have qf : u.frozen? ⟨b0, 0, none⟩ = false := blk_free hru.a
    clear hru
    refine ⟨?_⟩
    simp only [putsFrom, Act.put, List.setIfInBounds_toArray, List.set_cons_zero, List.set_cons_succ, Nat.reduceAdd] at hK ⊢
    go_simp
    exact hK.out undef _ trivial ⟨HRU.out.set0 hn _, (Below.mono HGG.out (Nat.le_trans h0 (Nat.le_of_lt HB0.out))).setCell h0 _⟩ trivial
  case sg5 =>
    refine OpStepQ.on 1 (by kernel_rfl) (by kernel_rfl) ?_
    intro x u hg hd K hK
    change ResA u b0 b1 (.slice none 0 0) #[x0, y0, z0] ∧ Below B w u at hg
    have d3 : (x 3) = .agg #[.int .i64 6, .int .i64 0, .int .i64 0] := And.left hd
    clear hd
    have hru := hg.1
    have HRU := hid hru
    have HGG := hid hg.2
    have q0 : u.cell? ⟨b1, 0, none⟩ = some x0 := blk_cell hru.b rfl
    have q1 : u.cell? ⟨b1, 1, none⟩ = some y0 := blk_cell hru.b rfl
    have q2 : u.cell? ⟨b1, 2, none⟩ = some z0 := blk_cell hru.b rfl
    have qf : u.frozen? ⟨b1, 0, none⟩ = false := blk_free hru.b
    have qf1 : u.frozen? ⟨b1, 1, none⟩ = false := blk_free hru.b
    have qf2 : u.frozen? ⟨b1, 2, none⟩ = false := blk_free hru.b
    clear hru
    refine ⟨?_⟩
    simp only [putsFrom, Act.put, List.setIfInBounds_toArray, List.set_cons_zero, List.set_cons_succ, Nat.reduceAdd, d3] at hK ⊢
    go_simp
    exact hK.out undef _ trivial ⟨HRU.out.set1 hn _ _ _, ((HGG.out.setCell h1 _).setCell h1 _).setCell h1 _⟩ trivial
  intro x u hg he
  have d0 : (x 0) = .iface 90 (.agg #[.int .i64 6]) := And.left he
  have d1 : (x 1) = .agg #[.int .i64 6] := And.left (And.right he)
  have d2 : (x 2) = .int .i64 6 := And.left (And.right (And.right he))
  have d3 : (x 3) = .agg #[.int .i64 6, .int .i64 0, .int .i64 0] := And.left (And.right (And.right (And.right he)))
  clear he
  change ResA u b0 b1 (.slice none 0 0) #[.int .i64 6, .int .i64 0, .int .i64 0] ∧ Below B w u at hg
  refine ⟨?_⟩
  simp only [putsFrom, Act.put, List.setIfInBounds_toArray, List.set_cons_zero, List.set_cons_succ, Nat.reduceAdd, d0, d1, d2, d3]
  clear d0 d1 d2 d3
  obtain ⟨hru, hbw⟩ := hg
  refine ⟨rfl, _, rfl, _, by simp [results, Try.results41], rfl, ?_, hru, hbw⟩
  rfl
theorem catch_idleP (w : World) (p0 p1 : Addr) :
    CallsD Try.prog 41 #[.pointer (some p0), .pointer (some p1)] .returning w fun e u' w' => e = .returned (.tuple #[]) ∧ u' = .returning ∧ w' = w := by
  refine callsD_of_wpS Try.func41 rfl fun c₀ cs hu => ?_
  apply wpS_seq
  apply wpS_region
  simp [wpOpsS, go_sem, recoverD, hu, Try.ntmps41, Exit.thenS, rep8]
  apply wpS_seq
  apply wpS_region
  simp [wpOpsS, go_sem, Exit.thenS]
  refine wpS_cond (t := false) (by simp [Act.eval]) ?_
  simp only [Bool.false_eq_true, if_false]
  refine wpS_of_wp (wp_skip ?_)
  cases c₀
  simp_all [bodyPostS, results, Try.results41]
/-- What the tokens are, as a tree; or the error's number. -/
noncomputable def parseM (l : List Tk) : Except Int T := if deepM 0 l then .error 5 else match treeM l with | some t => .ok t | none => .error 6
/-- v is a row of the call's own that holds the tree's nodes, each with a row of kids of its own. -/
def ParO (w : World) (base : Nat) (v : Value) (t : T) : Prop := ∃ ps : List GNode, OwnL (CeG base) 5 54 w base v ps ∧ ps.map Prod.fst = flat 0 t ∧ (gBlks ps).Nodup ∧ ps.length ≤ 4001
def ParP (w : World) (S : ByteArray) (e : Ending) (w' : World) : Prop :=
  ((∃ er : Err, ToksM S (.error er) ∧ 1 ≤ er.1 ∧ er.1 ≤ 20 ∧ e = .returned (.tuple #[.slice none 0 0, .agg #[.int .i64 er.1, .int .i64 er.2.1, .int .i64 er.2.2]])) ∨
   (∃ lt, ToksM S (.ok lt) ∧ ((∃ c, parseM (lt.map tkOf) = .error c ∧ e = .returned (.tuple #[.slice none 0 0, .agg #[.int .i64 c, .int .i64 0, .int .i64 0]])) ∨
     (∃ t v, parseM (lt.map tkOf) = .ok t ∧ e = .returned (.tuple #[v, .agg #[.int .i64 0, .int .i64 0, .int .i64 0]]) ∧ ParO w' w.heap.size v t)))) ∧ Kp w w'
set_option maxRecDepth 20000 in
set_option maxHeartbeats 16000000 in
theorem parse_err (w : World) (S : ByteArray) (hs : S.size ≤ 140737488351232) (er : Err) (hr : ToksM S (.error er)) : Calls Try.prog 20 #[.string S] w (ParP w S) := by
  have hmf : ∀ (fn : Fn) (first cap : Array Value) (w : World), (Instr.makeFunc fn first cap).run Try.prog w = .ok (.func fn first cap) w := fun _ _ _ _ => rfl
  have HRA := hid (show ResA ((w.alloc (.cells #[.slice none 0 0] 46)).alloc (.cells #[.int .i64 0, .int .i64 0, .int .i64 0] 48)) w.heap.size (w.heap.size + 1) (.slice none 0 0) #[.int .i64 0, .int .i64 0, .int .i64 0] from ⟨blk_old (blk_new _ _) _, blk_new2 _ _ _⟩)
  have HKA := hid (show Kp w ((w.alloc (.cells #[.slice none 0 0] 46)).alloc (.cells #[.int .i64 0, .int .i64 0, .int .i64 0] 48)) from ((Kp.refl w).alloc _).alloc _)
  have HR := hid hr
  clear hr
  go_enter_defers Try.func20, Try.ntmps20
  go_upto_region 3 with (go_at_call 39; go_must (refine (toks_err hs HR.out _).mono ?_); rintro e w1 ⟨⟨z1, z2, rfl⟩, hk1⟩; have z3 : (er.1 != 0) = true := (by rw [bne_iff_ne]; omega); have z4 : (er.1 == 0) = false := (by rw [beq_eq_false_iff_ne]; omega); have HK1 := hid (HKA.out.trans hk1); have HZ := hid (And.intro z1 z2); have hra := HRA.out.kp hk1; have HRB := hid hra; have r1 : w1.cell? ⟨w.heap.size + 1, 0, none⟩ = some (.int .i64 0) := blk_cell hra.b rfl; have r2 : w1.cell? ⟨w.heap.size + 1, 1, none⟩ = some (.int .i64 0) := blk_cell hra.b rfl; have r3 : w1.cell? ⟨w.heap.size + 1, 2, none⟩ = some (.int .i64 0) := blk_cell hra.b rfl; have f1 : w1.frozen? ⟨w.heap.size + 1, 0, none⟩ = false := blk_free hra.b; have f2 : w1.frozen? ⟨w.heap.size + 1, 1, none⟩ = false := blk_free hra.b; have f3 : w1.frozen? ⟨w.heap.size + 1, 2, none⟩ = false := blk_free hra.b; clear hra hk1 z1 z2)
  have HS1 := hid (HRB.out.set1 (by omega) (.int .i64 er.1) (.int .i64 er.2.1) (.int .i64 er.2.2))
  have HKS := hid (((HK1.out.setCell (p := ⟨w.heap.size + 1, 0, none⟩) (by show w.heap.size ≤ w.heap.size + 1; omega) (.int .i64 er.1)).setCell (p := ⟨w.heap.size + 1, 1, none⟩) (by show w.heap.size ≤ w.heap.size + 1; omega) (.int .i64 er.2.1)).setCell (p := ⟨w.heap.size + 1, 2, none⟩) (by show w.heap.size ≤ w.heap.size + 1; omega) (.int .i64 er.2.2))
  obtain ⟨b0, hb0⟩ : ∃ b0, w.heap.size = b0 := ⟨_, rfl⟩
  obtain ⟨b1, hb1⟩ : ∃ b1, w.heap.size + 1 = b1 := ⟨_, rfl⟩
  have HN := hid (show w.heap.size = b0 ∧ b0 ≠ b1 ∧ b0 ≤ b1 by omega)
  rw [hb1] at HS1 HKS ⊢
  rw [hb0] at HS1 ⊢
  generalize ((w1.setCell ⟨b1, 0, none⟩ (.int .i64 er.1)).setCell ⟨b1, 1, none⟩ (.int .i64 er.2.1)).setCell ⟨b1, 2, none⟩ (.int .i64 er.2.2) = W2 at HS1 HKS ⊢
  clear hb0 hb1 r1 r2 r3 f1 f2 f3 HRB HRA HKA HK1
  have HL0 := hid (blk_lt HS1.out.a); have HL1 := hid (blk_lt HS1.out.b)
  refine wp_region_phase [1, 2] [(0, 1), (0, 0), (0, 0)] (fun _ _ => True) [[], [], [0, 1]]
    (fun (p : Nat) (x : Nat → Value) (u : World) => match p with | 0 => Kp W2 u | 1 => ResA u b0 b1 (.slice none 0 0) #[.int .i64 er.1, .int .i64 er.2.1, .int .i64 er.2.2] ∧ Below b0 W2 u | _ => ResA u b0 b1 (.slice none 0 0) #[.int .i64 er.1, .int .i64 er.2.1, .int .i64 er.2.2] ∧ Below b0 W2 u)
    [fun (y : Value) (u : World) => y = (.agg #[.int .i64 er.1, .int .i64 er.2.1, .int .i64 er.2.2] : Value),
     fun (y : Value) (u : World) => True,
     fun (y : Value) (u : World) => True]
    (by kernel_rfl) (by kernel_rfl) (by kernel_rfl) (by kernel_rfl) (by kernel_rfl) (by kernel_rfl) (fun _ _ _ => trivial) ((Kp.refl W2).drew) ?hKh ?hXh ⟨fun _ _ _ _ h => h, fun _ _ _ _ _ => trivial, fun _ _ _ _ _ => trivial, trivial⟩ ⟨?sh0, ?sh1, ?sh2, trivial⟩ ?hEh
  case hKh =>
    intro p x w w' hk h
    rcases p with _ | _ | p
    · exact h.trans hk
    · exact ⟨h.1.kp hk, Below.trans h.2 (Below.mono hk (Nat.le_trans (Nat.le_of_lt HL0.out) h.2.size))⟩
    · exact ⟨h.1.kp hk, Below.trans h.2 (Below.mono hk (Nat.le_trans (Nat.le_of_lt HL0.out) h.2.size))⟩
  case hXh =>
    intro p x i v w hi h
    have e0 : upd x i v 1 = x 1 := if_neg (fun hh => hi (by rw [← hh]; decide))
    have e1 : upd x i v 2 = x 2 := if_neg (fun hh => hi (by rw [← hh]; decide))
    rcases p with _ | _ | p
    · first | exact h | (simp only [e0, e1]; exact h)
    · first | exact h | (simp only [e0, e1]; exact h)
    · first | exact h | (simp only [e0, e1]; exact h)
  case sh0 =>
    refine OpStepQ.off 0 1 (by kernel_rfl) (by kernel_rfl) ?_
    intro x u p hp hg hd K hK
    clear hd
    have hru : ResA u b0 b1 (.slice none 0 0) #[.int .i64 er.1, .int .i64 er.2.1, .int .i64 er.2.2] := by
      rcases p with _ | _ | p
      · exact HS1.out.kp hg
      · exact hg.1
      · exact hg.1
    have q0 : u.cell? ⟨b1, 0, none⟩ = some (.int .i64 er.1) := blk_cell hru.b rfl
    have q1 : u.cell? ⟨b1, 1, none⟩ = some (.int .i64 er.2.1) := blk_cell hru.b rfl
    have q2 : u.cell? ⟨b1, 2, none⟩ = some (.int .i64 er.2.2) := blk_cell hru.b rfl
    clear hru
    refine ⟨?_⟩
    simp only [putsFrom, Act.put, List.setIfInBounds_toArray, List.set_cons_zero, List.set_cons_succ, Nat.reduceAdd] at hK ⊢
    go_simp
    exact hK.out _ _ (Kp.refl _) rfl
  case sh1 =>
    refine OpStepQ.on 0 (by kernel_rfl) (by kernel_rfl) ?_
    intro x u hg hd K hK
    change Kp W2 u at hg
    clear hd
    have hru := HS1.out.kp hg
    have HRU := hid hru
    have HGG := hid hg
    have q0 : u.cell? ⟨b0, 0, none⟩ = some (.slice none 0 0) := blk_cell hru.a rfl
    have qf : u.frozen? ⟨b0, 0, none⟩ = false := blk_free hru.a
    clear hru
    refine ⟨?_⟩
    simp only [putsFrom, Act.put, List.setIfInBounds_toArray, List.set_cons_zero, List.set_cons_succ, Nat.reduceAdd] at hK ⊢
    go_simp
    exact hK.out undef _ trivial ⟨HRU.out.set0 HN.out.2.1 _, (Below.mono HGG.out (Nat.le_of_lt HL0.out)).setCell (Nat.le_refl _) _⟩ trivial
  case sh2 =>
    refine OpStepQ.on 1 (by kernel_rfl) (by kernel_rfl) ?_
    intro x u hg hd K hK
    change ResA u b0 b1 (.slice none 0 0) #[.int .i64 er.1, .int .i64 er.2.1, .int .i64 er.2.2] ∧ Below b0 W2 u at hg
    have d0 : (x 0) = .agg #[.int .i64 er.1, .int .i64 er.2.1, .int .i64 er.2.2] := And.left hd
    clear hd
    have hru := hg.1
    have HRU := hid hru
    have HGG := hid hg.2
    have q0 : u.cell? ⟨b1, 0, none⟩ = some (.int .i64 er.1) := blk_cell hru.b rfl
    have q1 : u.cell? ⟨b1, 1, none⟩ = some (.int .i64 er.2.1) := blk_cell hru.b rfl
    have q2 : u.cell? ⟨b1, 2, none⟩ = some (.int .i64 er.2.2) := blk_cell hru.b rfl
    have qf : u.frozen? ⟨b1, 0, none⟩ = false := blk_free hru.b
    have qf1 : u.frozen? ⟨b1, 1, none⟩ = false := blk_free hru.b
    have qf2 : u.frozen? ⟨b1, 2, none⟩ = false := blk_free hru.b
    clear hru
    refine ⟨?_⟩
    simp only [putsFrom, Act.put, List.setIfInBounds_toArray, List.set_cons_zero, List.set_cons_succ, Nat.reduceAdd, d0] at hK ⊢
    go_simp
    exact hK.out undef _ trivial ⟨HRU.out.set1 HN.out.2.1 _ _ _, ((HGG.out.setCell HN.out.2.2 _).setCell HN.out.2.2 _).setCell HN.out.2.2 _⟩ trivial
  intro x u hg he
  have d0 : (x 0) = .agg #[.int .i64 er.1, .int .i64 er.2.1, .int .i64 er.2.2] := And.left he
  clear he
  change ResA u b0 b1 (.slice none 0 0) #[.int .i64 er.1, .int .i64 er.2.1, .int .i64 er.2.2] ∧ Below b0 W2 u at hg
  refine ⟨?_⟩
  simp only [putsFrom, Act.put, List.setIfInBounds_toArray, List.set_cons_zero, List.set_cons_succ, Nat.reduceAdd, d0]
  clear d0
  obtain ⟨hru, hbw⟩ := hg
  have HBW := hid hbw
  have q0 : u.cell? ⟨b0, 0, none⟩ = some (.slice none 0 0) := blk_cell hru.a rfl
  have q1 : u.cell? ⟨b1, 0, none⟩ = some (.int .i64 er.1) := blk_cell hru.b rfl
  have q2 : u.cell? ⟨b1, 1, none⟩ = some (.int .i64 er.2.1) := blk_cell hru.b rfl
  have q3 : u.cell? ⟨b1, 2, none⟩ = some (.int .i64 er.2.2) := blk_cell hru.b rfl
  clear hru hbw
  go_wp2
  refine ⟨_, by simp [results, Try.results20, go_sem, q0, q1, q2, q3], .inl ⟨er, HR.out, HZ.out.1, HZ.out.2, rfl⟩, Below.trans HKS.out (by have h := HN.out.1; rw [h]; exact HBW.out)⟩
theorem start_at {W2 w3 : World} {v : Value} {lt : List TokenM} (h : RdL CeToken 4 W2 v lt) (hk : Kp W2 w3) (hl : lt.length ≤ 2000) : StT (w3.alloc (.cells (rdrC v 0 (.slice none 0 0)) 93)) w3.heap.size lt (lt.map tkOf) [] [] [] (0 + 1) nilV [] (w3.alloc (.cells (rdrC v 0 (.slice none 0 0)) 93)) := by
  refine StT.start ⟨v, .slice none 0 0, 0, blk_new _ _, ⟨w3, Nat.le_refl _, h.kp CeToken.kp hk, (Below.refl _ _).alloc (Nat.le_refl _) _⟩, OwnL.nil _ _ _ _ _, by simp, by simp, by simp [gBlks], by simp; omega, hl⟩ rfl
set_option maxRecDepth 20000 in
set_option maxHeartbeats 16000000 in
theorem parse_ok (w : World) (S : ByteArray) (lt : List TokenM) (hr : ToksM S (.ok lt)) : Calls Try.prog 20 #[.string S] w (ParP w S) := by
  have hmf : ∀ (fn : Fn) (first cap : Array Value) (w : World), (Instr.makeFunc fn first cap).run Try.prog w = .ok (.func fn first cap) w := fun _ _ _ _ => rfl
  have HRA := hid (show ResA ((w.alloc (.cells #[.slice none 0 0] 46)).alloc (.cells #[.int .i64 0, .int .i64 0, .int .i64 0] 48)) w.heap.size (w.heap.size + 1) (.slice none 0 0) #[.int .i64 0, .int .i64 0, .int .i64 0] from ⟨blk_old (blk_new _ _) _, blk_new2 _ _ _⟩)
  have HKA := hid (show Kp w ((w.alloc (.cells #[.slice none 0 0] 46)).alloc (.cells #[.int .i64 0, .int .i64 0, .int .i64 0] 48)) from ((Kp.refl w).alloc _).alloc _)
  have HR := hid hr
  have HPL := hid hr.placed
  clear hr
  go_enter_defers Try.func20, Try.ntmps20
  go_upto_region 4 with (go_at_call 39; go_must (refine (toks_ok HR.out _).mono ?_); rintro e w1 ⟨⟨v1, rfl, ho1⟩, hk1⟩; obtain ⟨A1, c1, rfl⟩ := own_form ho1.choose_spec.1; have HO1 := hid ho1; have HK1 := hid (HKA.out.trans hk1); have hra := HRA.out.kp hk1; have HRB := hid hra; have r1 : w1.cell? ⟨w.heap.size + 1, 0, none⟩ = some (.int .i64 0) := blk_cell hra.b rfl; have r2 : w1.cell? ⟨w.heap.size + 1, 1, none⟩ = some (.int .i64 0) := blk_cell hra.b rfl; have r3 : w1.cell? ⟨w.heap.size + 1, 2, none⟩ = some (.int .i64 0) := blk_cell hra.b rfl; have f1 : w1.frozen? ⟨w.heap.size + 1, 0, none⟩ = false := blk_free hra.b; have f2 : w1.frozen? ⟨w.heap.size + 1, 1, none⟩ = false := blk_free hra.b; have f3 : w1.frozen? ⟨w.heap.size + 1, 2, none⟩ = false := blk_free hra.b; clear hra hk1 ho1)
  have HS1 := hid (HRB.out.set1 (by omega) (.int .i64 0) (.int .i64 0) (.int .i64 0))
  have hks := ((HK1.out.setCell (p := ⟨w.heap.size + 1, 0, none⟩) (by show w.heap.size ≤ w.heap.size + 1; omega) (.int .i64 0)).setCell (p := ⟨w.heap.size + 1, 1, none⟩) (by show w.heap.size ≤ w.heap.size + 1; omega) (.int .i64 0)).setCell (p := ⟨w.heap.size + 1, 2, none⟩) (by show w.heap.size ≤ w.heap.size + 1; omega) (.int .i64 0)
  have HKS := hid hks
  have tk := tok_touch (tok_touch (tok_touch HO1.out (rowTouch (o := 0) HRB.out.b (.int .i64 0)) (by decide)) (rowTouch (o := 1) (blk_set HRB.out.b _) (.int .i64 0)) (by decide)) (rowTouch (o := 2) (blk_set (blk_set HRB.out.b _) _) (.int .i64 0)) (by decide)
  have HTK := hid (OwnL.rd tk)
  obtain ⟨b0, hb0⟩ : ∃ b0, w.heap.size = b0 := ⟨_, rfl⟩
  obtain ⟨b1, hb1⟩ : ∃ b1, w.heap.size + 1 = b1 := ⟨_, rfl⟩
  have HN := hid (show w.heap.size = b0 ∧ b0 ≠ b1 ∧ b0 ≤ b1 by omega)
  clear tk hks
  rw [hb1] at HS1 HKS HTK ⊢
  rw [hb0] at HS1 ⊢
  generalize ((w1.setCell ⟨b1, 0, none⟩ (.int .i64 0)).setCell ⟨b1, 1, none⟩ (.int .i64 0)).setCell ⟨b1, 2, none⟩ (.int .i64 0) = W2 at HS1 HKS HTK ⊢
  clear hb0 hb1 r1 r2 r3 f1 f2 f3 HRB HRA HKA HK1 HO1
  have HL0 := hid (blk_lt HS1.out.a); have HL1 := hid (blk_lt HS1.out.b)
  have n1 := HN.out.2.1
  have n2 : b1 ≠ b0 := fun e => n1 e.symm
  by_cases hd : deepM 0 (lt.map tkOf) = true
  · have HPM := hid (show parseM (lt.map tkOf) = .error 5 by unfold parseM; rw [if_pos hd])
    go_upto_region 5 with (go_at_call 40; go_must (refine (deep_any _ _ lt HTK.out HPL.out.2.1).mono ?_); rintro e w3 ⟨rfl, hk3⟩; rw [hd]; have HK3 := hid hk3; have hra := HS1.out.kp hk3; have HRB := hid hra; have r0 : w3.cell? ⟨b0, 0, none⟩ = some (.slice none 0 0) := blk_cell hra.a rfl; have f0 : w3.frozen? ⟨b0, 0, none⟩ = false := blk_free hra.a; have r1 : w3.cell? ⟨b1, 0, none⟩ = some (.int .i64 0) := blk_cell hra.b rfl; have r2 : w3.cell? ⟨b1, 1, none⟩ = some (.int .i64 0) := blk_cell hra.b rfl; have r3 : w3.cell? ⟨b1, 2, none⟩ = some (.int .i64 0) := blk_cell hra.b rfl; have f1 : w3.frozen? ⟨b1, 0, none⟩ = false := blk_free hra.b; have f2 : w3.frozen? ⟨b1, 1, none⟩ = false := blk_free hra.b; have f3 : w3.frozen? ⟨b1, 2, none⟩ = false := blk_free hra.b; clear hra hk3)
    go_wp2
    have hs0 := HRB.out.set0 HN.out.2.1 (.slice none 0 0)
    have hs1 := hs0.set1 HN.out.2.1 (.int .i64 5) (.int .i64 0) (.int .i64 0)
    have q0 := blk_cell (o := 0) (v := .slice none 0 0) hs1.a rfl
    have q1 := blk_cell (o := 0) (v := .int .i64 5) hs1.b rfl
    have q2 := blk_cell (o := 1) (v := .int .i64 0) hs1.b rfl
    have q3 := blk_cell (o := 2) (v := .int .i64 0) hs1.b rfl
    have hw0 := HN.out.1
    have hkf := ((((HKS.out.trans HK3.out).setCell (p := ⟨b0, 0, none⟩) (by show w.heap.size ≤ b0; omega) (.slice none 0 0)).setCell (p := ⟨b1, 0, none⟩) (by show w.heap.size ≤ b1; have := HN.out; omega) (.int .i64 5)).setCell (p := ⟨b1, 1, none⟩) (by show w.heap.size ≤ b1; have := HN.out; omega) (.int .i64 0)).setCell (p := ⟨b1, 2, none⟩) (by show w.heap.size ≤ b1; have := HN.out; omega) (.int .i64 0)
    refine ⟨_, by simp [results, Try.results20, go_sem, q0, q1, q2, q3], .inr ⟨lt, HR.out, .inl ⟨5, HPM.out, rfl⟩⟩, hkf⟩
  · have hd2 := eq_false_of_ne_true hd
    have HD2 := hid hd2
    have hfin := fin_files (8 * (lt.map tkOf).length + 8) [] (lt.map tkOf) (by omega)
    have hnf : filesF (8 * (lt.map tkOf).length + 8) [] (lt.map tkOf) ≠ .out := by intro e; rw [e] at hfin; exact hfin
    have HNF := hid hnf
    clear hd hfin hnf
    cases hq : filesF (8 * (lt.map tkOf).length + 8) [] (lt.map tkOf) with
    | out => exact absurd hq HNF.out
    | bad =>
      have HQ := hid hq
      have HPM := hid (show parseM (lt.map tkOf) = .error 6 by unfold parseM treeM; rw [if_neg (by rw [HD2.out]; decide), hq])
      clear hq
      go_upto_region 8 with (go_at_call 40; go_must (refine (deep_any _ _ lt HTK.out HPL.out.2.1).mono ?_); rintro e w3 ⟨rfl, hk3⟩; rw [hd2]; have HK3 := hid hk3; have hra := HS1.out.kp hk3; have HRB := hid hra; clear hra hk3)
      have HST := hid (start_at HTK.out HK3.out HPL.out.2.1)
      have HRC := hid (HRB.out.kp ((Kp.refl w3).alloc (.cells (rdrC (.slice A1 lt.length c1) 0 (.slice none 0 0)) 93)))
      have HLE := hid (show b0 < w3.heap.size ∧ b1 < w3.heap.size from ⟨blk_lt HRB.out.a, blk_lt HRB.out.b⟩)
      have HKB := hid (HKS.out.trans (HK3.out.alloc (.cells (rdrC (.slice A1 lt.length c1) 0 (.slice none 0 0)) 93)))
      unfold rdrC at HST HRC HKB
      go_wp2_with (go_at_call 42; go_must (refine (file_ok (8 * (lt.map tkOf).length + 8) HST.out HNF.out).mono ?_); rw [HQ.out]; rintro e w9 ⟨rfl, hb⟩; unfold stopP; have HB9 := hid hb; clear hb)
      refine leaves_cons (f := 41) (args := #[.pointer (some ⟨b0, 0, none⟩), .pointer (some ⟨b1, 0, none⟩)]) (by simp) (by simp [go_sem]) ?_
      refine (catch_stopP _ b0 b0 b1 _ _ _ _ (HRC.out.below HB9.out HLE.out.1 HLE.out.2) HN.out.2.1 (Nat.le_refl _) HN.out.2.2 []).mono ?_
      rintro e u' w'' ⟨rfl, rfl, hr3, hb3⟩
      have q0 : w''.cell? ⟨b0, 0, none⟩ = some (.slice none 0 0) := blk_cell hr3.a rfl
      have q1 : w''.cell? ⟨b1, 0, none⟩ = some (.int .i64 6) := blk_cell hr3.b rfl
      have q2 : w''.cell? ⟨b1, 1, none⟩ = some (.int .i64 0) := blk_cell hr3.b rfl
      have q3 : w''.cell? ⟨b1, 2, none⟩ = some (.int .i64 0) := blk_cell hr3.b rfl
      have hkf : Kp w w'' := Below.trans HKB.out (Below.trans (Below.mono HB9.out (by have := HKS.out.le; have := HK3.out.le; omega)) (by have h := HN.out.1; rw [h]; exact hb3))
      refine ⟨_, by simp [results, Try.results20, go_sem, q0, q1, q2, q3], .inr ⟨lt, HR.out, .inl ⟨6, HPM.out, rfl⟩⟩, hkf⟩
    | ok ks r =>
      have HQ := hid hq
      have HPM := hid (show parseM (lt.map tkOf) = .ok (Pa.nd 1 ks) by unfold parseM treeM; rw [if_neg (by rw [HD2.out]; decide), hq])
      clear hq
      go_upto_region 8 with (go_at_call 40; go_must (refine (deep_any _ _ lt HTK.out HPL.out.2.1).mono ?_); rintro e w3 ⟨rfl, hk3⟩; rw [hd2]; have HK3 := hid hk3; have hra := HS1.out.kp hk3; have HRB := hid hra; clear hra hk3)
      have HST := hid (start_at HTK.out HK3.out HPL.out.2.1)
      have HRC := hid (HRB.out.kp ((Kp.refl w3).alloc (.cells (rdrC (.slice A1 lt.length c1) 0 (.slice none 0 0)) 93)))
      have HLE := hid (show b0 < w3.heap.size ∧ b1 < w3.heap.size from ⟨blk_lt HRB.out.a, blk_lt HRB.out.b⟩)
      have HKB := hid (HKS.out.trans (HK3.out.alloc (.cells (rdrC (.slice A1 lt.length c1) 0 (.slice none 0 0)) 93)))
      unfold rdrC at HST HRC HKB
      go_upto_region 9 with (go_at_call 42; go_must (refine (file_ok (8 * (lt.map tkOf).length + 8) HST.out HNF.out).mono ?_); rw [HQ.out]; rintro e w9 ⟨q, rfl, hs⟩; have HSF := hid hs; clear hs)
      have hb9 := HSF.out.low
      have hra := HRC.out.below hb9 HLE.out.1 HLE.out.2
      have HRB := hid hra
      obtain ⟨new, hn⟩ := HSF.out
      obtain ⟨lv, tv, nn, hp⟩ := hn.prs
      obtain ⟨A6, c6, rfl⟩ := hp.tform
      have HP := hid hp
      have HIS := hid hn.is_
      have p2 := hp.c2
      have plt := hp.rp_lt
      have r0 : w9.cell? ⟨b0, 0, none⟩ = some (.slice none 0 0) := blk_cell hra.a rfl
      have f0 : w9.frozen? ⟨b0, 0, none⟩ = false := blk_free hra.a
      have r1 : w9.cell? ⟨b1, 0, none⟩ = some (.int .i64 0) := blk_cell hra.b rfl
      have r2 : w9.cell? ⟨b1, 1, none⟩ = some (.int .i64 0) := blk_cell hra.b rfl
      have r3 : w9.cell? ⟨b1, 2, none⟩ = some (.int .i64 0) := blk_cell hra.b rfl
      have f1 : w9.frozen? ⟨b1, 0, none⟩ = false := blk_free hra.b
      have f2 : w9.frozen? ⟨b1, 1, none⟩ = false := blk_free hra.b
      have f3 : w9.frozen? ⟨b1, 2, none⟩ = false := blk_free hra.b
      have HKC := hid (show Kp w w9 from Below.trans HKB.out (Below.mono hb9 (by have := HKS.out.le; have := HK3.out.le; omega)))
      clear hra hn hp hb9
      go_wp2
      refine leaves_cons (f := 41) (args := #[.pointer (some ⟨b0, 0, none⟩), .pointer (some ⟨b1, 0, none⟩)]) (by simp) (by simp [go_sem]) ?_
      refine (catch_idleP _ ⟨b0, 0, none⟩ ⟨b1, 0, none⟩).mono ?_
      rintro e u' w'' ⟨rfl, rfl, rfl⟩
      have hs0 := HRB.out.set0 n1 (.slice A6 new.length c6)
      have hs1 := hs0.set1 n1 (.int .i64 0) (.int .i64 0) (.int .i64 0)
      have q0 := blk_cell (o := 0) (v := .slice A6 new.length c6) hs1.a rfl
      have q1 := blk_cell (o := 0) (v := .int .i64 0) hs1.b rfl
      have q2 := blk_cell (o := 1) (v := .int .i64 0) hs1.b rfl
      have q3 := blk_cell (o := 2) (v := .int .i64 0) hs1.b rfl
      have t0 := tree_touch HP.out.tree (rowTouch (o := 0) HRB.out.a (.slice A6 new.length c6)) (by decide) (by decide)
      have t1 := tree_touch t0 (rowTouch (o := 0) hs0.b (.int .i64 0)) (by decide) (by decide)
      have t2 := tree_touch t1 (rowTouch (o := 1) (blk_set hs0.b _) (.int .i64 0)) (by decide) (by decide)
      have t3 := tree_touch t2 (rowTouch (o := 2) (blk_set (blk_set hs0.b _) _) (.int .i64 0)) (by decide) (by decide)
      have hkf := (((HKC.out.setCell (p := ⟨b0, 0, none⟩) (by show w.heap.size ≤ b0; have := HN.out; omega) (.slice A6 new.length c6)).setCell (p := ⟨b1, 0, none⟩) (by show w.heap.size ≤ b1; have := HN.out; omega) (.int .i64 0)).setCell (p := ⟨b1, 1, none⟩) (by show w.heap.size ≤ b1; have := HN.out; omega) (.int .i64 0)).setCell (p := ⟨b1, 2, none⟩) (by show w.heap.size ≤ b1; have := HN.out; omega) (.int .i64 0)
      have hbse : w.heap.size ≤ w3.heap.size := by have := HKS.out.le; have := HK3.out.le; omega
      have hbd := HP.out.bd
      refine ⟨_, by simp [results, Try.results20, go_sem, q0, q1, q2, q3], .inr ⟨lt, HR.out, .inr ⟨Pa.nd 1 ks, .slice A6 new.length c6, HPM.out, rfl, new, ?_, ?_, HP.out.nd, ?_⟩⟩, hkf⟩
      · exact (OwnL.base_ hbse t3).mono (fun cs a h => ⟨h.1, own_base hbse h.2.1, h.2.2⟩)
      · have := HIS.out
        simpa [flatL] using this
      · simp at hbd; omega
theorem parse_any (w : World) (S : ByteArray) (hs : S.size ≤ 140737488351232) : Calls Try.prog 20 #[.string S] w (ParP w S) := by
  obtain ⟨r, hr⟩ := toks_ex S
  cases r with
  | ok lt => exact parse_ok w S lt hr
  | error er => exact parse_err w S hs er hr
/-- Parse at a source of which the tree is known. -/
theorem parse_hit (w : World) (S : ByteArray) {lt : List TokenM} {t : T} (hr : ToksM S (.ok lt)) (hp : parseM (lt.map tkOf) = .ok t) : Calls Try.prog 20 #[.string S] w fun e w' => (∃ v, e = .returned (.tuple #[v, .agg #[.int .i64 0, .int .i64 0, .int .i64 0]]) ∧ ParO w' w.heap.size v t) ∧ Kp w w' := by
  refine (parse_ok w S lt hr).mono ?_
  rintro e w' ⟨h | ⟨lt2, h1, h⟩, hk⟩
  · obtain ⟨er, h1, _⟩ := h
    have := hr.det h1
    cases this
  · have hd := hr.det h1
    injection hd with hd
    subst hd
    rcases h with ⟨c, h2, _⟩ | ⟨t2, v, h2, h3, h4⟩
    · rw [hp] at h2; cases h2
    · rw [hp] at h2
      injection h2 with h2
      subst h2
      exact ⟨⟨v, h3, h4⟩, hk⟩
/-- Parse at a source of which it is known that it has no tree. -/
theorem parse_miss (w : World) (S : ByteArray) {lt : List TokenM} {c : Int} (hr : ToksM S (.ok lt)) (hp : parseM (lt.map tkOf) = .error c) : Calls Try.prog 20 #[.string S] w fun e w' => e = .returned (.tuple #[.slice none 0 0, .agg #[.int .i64 c, .int .i64 0, .int .i64 0]]) ∧ Kp w w' := by
  refine (parse_ok w S lt hr).mono ?_
  rintro e w' ⟨h | ⟨lt2, h1, h⟩, hk⟩
  · obtain ⟨er, h1, _⟩ := h
    have := hr.det h1
    cases this
  · have hd := hr.det h1
    injection hd with hd
    subst hd
    rcases h with ⟨c2, h2, h3⟩ | ⟨t2, v, h2, _⟩
    · rw [hp] at h2
      injection h2 with h2
      subst h2
      exact ⟨h3, hk⟩
    · rw [hp] at h2; cases h2
end Go.Proofs.Ytgonekmmbeedeaa.Pa
