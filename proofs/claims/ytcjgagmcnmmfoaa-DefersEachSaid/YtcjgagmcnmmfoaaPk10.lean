/-
  Parts of the proof of a law: ParG, SzT, ScanR, WelT, One. No condition.
-/
import Derived.Test.YtcjgagmcnmmfoaaPk3
import Derived.Test.YtcjgagmcnmmfoaaPk4
import Derived.Test.YtcjgagmcnmmfoaaPk5
import Derived.Test.YtcjgagmcnmmfoaaPk6
import Derived.Test.YtcjgagmcnmmfoaaPk7
import Derived.Test.YtcjgagmcnmmfoaaPk9
set_option maxRecDepth 20000
set_option maxHeartbeats 16000000
set_option linter.unusedVariables false
set_option linter.unusedSimpArgs false
namespace Go.Proofs.Ytcjgagmcnmmfoaa.Pa
open Go.RowKit

noncomputable def filesF : Nat → List T → List Tk → Pr (List T)
 | 0, _, _ => .out
 | f + 1, ks, [] => .ok ks []
 | f + 1, ks, t :: r => if kindOf (t :: r) = 6 then filesF f ks r else
   (want kFunc (t :: r)).bind fun _ r => (nmM r).bind fun s r => (funF f 2 s r).bind fun a r => if r = [] ∨ kindOf r = 6 then filesF f (ks ++ [a]) r else .bad
theorem files_cons (f : Nat) (ks : List T) (l : List Tk) (h : l ≠ []) : filesF (f + 1) ks l = if kindOf l = 6 then filesF f ks l.tail else
   (want kFunc l).bind fun _ r => (nmM r).bind fun s r => (funF f 2 s r).bind fun a r => if r = [] ∨ kindOf r = 6 then filesF f (ks ++ [a]) r else .bad := by
 cases l with
 | nil => exact absurd rfl h
 | cons t r => rfl
theorem fin_files : ∀ f ks l, 8 * l.length + 2 ≤ f → Fin (l.length + 1) (filesF f ks l)
 | 0, _, l, h => by omega
 | f + 1, ks, [], h => by rw [filesF]; exact Nat.lt_succ_self _
 | f + 1, ks, t :: r, h => by
  rw [filesF]
  simp only [List.length_cons] at h ⊢
  split
  ·exact (fin_files f ks r (by omega)).mono (by omega)
  ·refine (fin_want kFunc (t :: r)).bind fun _ r1 h1 => (fin_name r1).bind fun s r2 h2 => ((fin_all f).fun_ 2 s r2 (by simp at h1; omega)).bind fun a r3 h3 => ?_
   simp only [List.length_cons] at h1
   split
   ·exact (fin_files f _ r3 (by omega)).mono (by omega)
   ·exact trivial
noncomputable def treeM (l : List Tk) : Option T := match filesF (8 * l.length + 8) [] l with
 | .ok ks _ => some (nd 1 ks)
 | _ => none
def ResF (w0 : World) (rp : Nat) (L : List TokenM) (ps na : List GNode) (s : Nat) (r : Pr (List T)) (e : Ending) (w' : World) : Prop := match r with
 | .ok ks l' => ∃ k : Nat, e = .returned (.int .i64 (k : Int)) ∧ StT w0 rp L l' ps na [nd 1 ks] s nilV [] w'
 | .bad => e = stopP ∧ Below rp w0 w'
 | .out => True
theorem StT.look1 {w0 w : World} {rp : Nat} {L : List TokenM} {l : List Tk} {ps na : List GNode} {ts : List T} {s : Nat} {kv : Value} {kids : List Int} (h : StT w0 rp L l ps na ts s kv kids w) : ∃ (A : Option Addr) (c n N : Nat), rp < w.heap.size ∧ w.cell? ⟨rp, 0, none⟩ = some (.slice A N c) ∧ w.cell? ⟨rp, 1, none⟩ = some (.int .i64 (n : Int)) ∧ n + l.length = N := by
 obtain ⟨new, h⟩ := h
 obtain ⟨lv, tv, n, hp⟩ := h.prs
 obtain ⟨A, c, rfl⟩ := hp.lform
 exact ⟨A, c, n, L.length, hp.rp_lt, hp.c0, hp.c1, hp.here⟩
theorem file_ok (f : Nat) {w : World} {rp : Nat} {L : List TokenM} {l : List Tk} {P Na : List GNode} {s : Nat} (h : StT w rp L l P Na [] (s + 1) nilV [] w) (hne : filesF f [] l ≠ .out) : Calls Try.prog 10 #[.pointer (some ⟨rp, 0, none⟩)] w (ResF w rp L P Na s (filesF f [] l)) := by
 have HS := hid h
 generalize hR : filesF f [] l = R at hne ⊢
 have HR := hid hR
 have HNE := hid hne
 clear h hR hne
 go_enter Try.func10, Try.ntmps10
 go_wp2_with fail
 go_loopw [3, 4] (fun kv _ wr => ∃ (g : Nat) (us : List T) (l' : List Tk) (A : Option Addr) (c : Nat), filesF g us l' = R ∧ kv = .slice A us.length c ∧ StT w rp L l' P Na us (s + 1) (.slice A us.length c) (rootsL (P.length + sizeL []) us) wr) (fun _ _ wr => L.length - atOf wr rp)
 case atStart => exact ⟨f, [], l, none, 0, HR.out, rfl, HS.out⟩
 case round =>
  clear HR HS
  obtain ⟨g, us, l', A, c, hr, rfl, hs⟩ := hrel
  have HS := hid hs
  have HAT := hid hs.at_
  obtain ⟨AL, cL, n, NL, lt, q0, q1, hlen⟩ := hs.look1
  clear hs
  cases g with
  | zero => exact absurd (by rw [← hr, filesF]) HNE.out
  | succ g =>
   by_cases h0 : l' = []
   ·subst h0
    rw [filesF] at hr
    have HR := hid hr
    clear hr
    have i1 : ¬ (n : Int) < (NL : Int) := by simp at hlen; omega
    go_upto_region 2 with fail
    refine wp_region_kp [[], [0], [1], [2], [], [4], [5], [6], [7], [3, 8]] (fun u => Kp wr u)
     [fun (y : Value) (u : World) => y = (.pointer (some ⟨rp, 0, none⟩) : Value),
     fun (y : Value) (u : World) => y = (.pointer (some ⟨rp, 0, none⟩) : Value),
     fun (y : Value) (u : World) => y = (.pointer (some ⟨rp, 1, none⟩) : Value),
     fun (y : Value) (u : World) => y = (.int .i64 (n : Int) : Value),
     fun (y : Value) (u : World) => y = (.pointer (some ⟨rp, 0, none⟩) : Value),
     fun (y : Value) (u : World) => y = (.pointer (some ⟨rp, 0, none⟩) : Value),
     fun (y : Value) (u : World) => y = (.pointer (some ⟨rp, 0, none⟩) : Value),
     fun (y : Value) (u : World) => y = (.slice AL NL cL : Value),
     fun (y : Value) (u : World) => y = (.int .i64 (NL : Int) : Value),
     fun (y : Value) (u : World) => y = (.bool false : Value)]
     (by kernel_rfl) (by kernel_rfl) (by kernel_rfl) (by kernel_rfl) ((Kp.refl _).drew) (fun _ _ hk h => h.trans hk) ⟨fun _ _ _ _ h => h, fun _ _ _ _ h => h, fun _ _ _ _ h => h, fun _ _ _ _ h => h, fun _ _ _ _ h => h, fun _ _ _ _ h => h, fun _ _ _ _ h => h, fun _ _ _ _ h => h, fun _ _ _ _ h => h, fun _ _ _ _ h => h, trivial⟩ ⟨?sb0, ?sb1, ?sb2, ?sb3, ?sb4, ?sb5, ?sb6, ?sb7, ?sb8, ?sb9, trivial⟩ ?hEb
    case sb0 =>
     intro x u hg hd K hK
     clear hd
     refine ⟨?_⟩
     simp only [putsFrom, Act.put, List.setIfInBounds_toArray, List.set_cons_zero, List.set_cons_succ, Nat.reduceAdd] at hK ⊢
     go_simp
     exact hK.out _ _ (Kp.refl _) rfl
    case sb1 =>
     intro x u hg hd K hK
     have d0 : (x 0) = .pointer (some ⟨rp, 0, none⟩) := hd.1
     clear hd
     refine ⟨?_⟩
     simp only [putsFrom, Act.put, List.setIfInBounds_toArray, List.set_cons_zero, List.set_cons_succ, Nat.reduceAdd, d0] at hK ⊢
     go_simp
     exact hK.out _ _ (Kp.refl _) rfl
    case sb2 =>
     intro x u hg hd K hK
     have d1 : (x 1) = .pointer (some ⟨rp, 0, none⟩) := hd.1
     clear hd
     refine ⟨?_⟩
     simp only [putsFrom, Act.put, List.setIfInBounds_toArray, List.set_cons_zero, List.set_cons_succ, Nat.reduceAdd, d1] at hK ⊢
     go_simp
     exact hK.out _ _ (Kp.refl _) rfl
    case sb3 =>
     intro x u hg hd K hK
     have d2 : (x 2) = .pointer (some ⟨rp, 1, none⟩) := hd.1
     clear hd
     have q0 := cell_kp hg lt q1
     refine ⟨?_⟩
     simp only [putsFrom, Act.put, List.setIfInBounds_toArray, List.set_cons_zero, List.set_cons_succ, Nat.reduceAdd, d2] at hK ⊢
     go_simp
     exact hK.out _ _ (Kp.refl _) rfl
    case sb4 =>
     intro x u hg hd K hK
     clear hd
     refine ⟨?_⟩
     simp only [putsFrom, Act.put, List.setIfInBounds_toArray, List.set_cons_zero, List.set_cons_succ, Nat.reduceAdd] at hK ⊢
     go_simp
     exact hK.out _ _ (Kp.refl _) rfl
    case sb5 =>
     intro x u hg hd K hK
     have d4 : (x 4) = .pointer (some ⟨rp, 0, none⟩) := hd.1
     clear hd
     refine ⟨?_⟩
     simp only [putsFrom, Act.put, List.setIfInBounds_toArray, List.set_cons_zero, List.set_cons_succ, Nat.reduceAdd, d4] at hK ⊢
     go_simp
     exact hK.out _ _ (Kp.refl _) rfl
    case sb6 =>
     intro x u hg hd K hK
     have d5 : (x 5) = .pointer (some ⟨rp, 0, none⟩) := hd.1
     clear hd
     refine ⟨?_⟩
     simp only [putsFrom, Act.put, List.setIfInBounds_toArray, List.set_cons_zero, List.set_cons_succ, Nat.reduceAdd, d5] at hK ⊢
     go_simp
     exact hK.out _ _ (Kp.refl _) rfl
    case sb7 =>
     intro x u hg hd K hK
     have d6 : (x 6) = .pointer (some ⟨rp, 0, none⟩) := hd.1
     clear hd
     have q0 := cell_kp hg lt q0
     refine ⟨?_⟩
     simp only [putsFrom, Act.put, List.setIfInBounds_toArray, List.set_cons_zero, List.set_cons_succ, Nat.reduceAdd, d6] at hK ⊢
     go_simp
     exact hK.out _ _ (Kp.refl _) rfl
    case sb8 =>
     intro x u hg hd K hK
     have d7 : (x 7) = .slice AL NL cL := hd.1
     clear hd
     refine ⟨?_⟩
     simp only [putsFrom, Act.put, List.setIfInBounds_toArray, List.set_cons_zero, List.set_cons_succ, Nat.reduceAdd, d7] at hK ⊢
     go_simp
     exact hK.out _ _ (Kp.refl _) rfl
    case sb9 =>
     intro x u hg hd K hK
     have d3 : (x 3) = .int .i64 (n : Int) := hd.1
     have d8 : (x 8) = .int .i64 (NL : Int) := hd.2.1
     clear hd
     refine ⟨?_⟩
     simp only [putsFrom, Act.put, List.setIfInBounds_toArray, List.set_cons_zero, List.set_cons_succ, Nat.reduceAdd, d3, d8] at hK ⊢
     go_simp
     exact hK.out _ _ (Kp.refl _) rfl
    intro x u hg he
    have d0 : (x 0) = .pointer (some ⟨rp, 0, none⟩) := he.1
    have d1 : (x 1) = .pointer (some ⟨rp, 0, none⟩) := he.2.1
    have d2 : (x 2) = .pointer (some ⟨rp, 1, none⟩) := he.2.2.1
    have d3 : (x 3) = .int .i64 (n : Int) := he.2.2.2.1
    have d4 : (x 4) = .pointer (some ⟨rp, 0, none⟩) := he.2.2.2.2.1
    have d5 : (x 5) = .pointer (some ⟨rp, 0, none⟩) := he.2.2.2.2.2.1
    have d6 : (x 6) = .pointer (some ⟨rp, 0, none⟩) := he.2.2.2.2.2.2.1
    have d7 : (x 7) = .slice AL NL cL := he.2.2.2.2.2.2.2.1
    have d8 : (x 8) = .int .i64 (NL : Int) := he.2.2.2.2.2.2.2.2.1
    have d9 : (x 9) = .bool false := he.2.2.2.2.2.2.2.2.2.1
    clear he
    refine ⟨?_⟩
    simp only [putsFrom, Act.put, List.setIfInBounds_toArray, List.set_cons_zero, List.set_cons_succ, Nat.reduceAdd, d0, d1, d2, d3, d4, d5, d6, d7, d8, d9]
    clear d0 d1 d2 d3 d4 d5 d6 d7 d8 d9
    have HS := hid (HS.out.kp hg)
    clear hg lt q0 q1 hlen
    obtain ⟨W1, hW1⟩ : ∃ x, x = u := ⟨_, rfl⟩
    subst hW1
    go_wp2_with (go_at_call 21; go_must (refine (t_put (ts := []) (us := us) 1 noB noB 0 (by unfold okI; omega) (by decide) (by decide) (okI0) HS.out).mono ?_); rintro e wn ⟨q9, rfl, hqq9, hs, hk⟩; have HQq9 := hid hqq9; clear hqq9; have HS := hid hs; clear hs hk)
    go_ret
    rw [← HR.out]
    exact ⟨q9, rfl, StT.weak HS.out (by omega)⟩
   have i1 : (n : Int) < (NL : Int) := by have := List.length_pos_iff.2 h0; omega
   rw [files_cons g us l' h0] at hr
   go_upto_region 2 with fail
   refine wp_region_kp [[], [0], [1], [2], [], [4], [5], [6], [7], [3, 8]] (fun u => Kp wr u)
    [fun (y : Value) (u : World) => y = (.pointer (some ⟨rp, 0, none⟩) : Value),
    fun (y : Value) (u : World) => y = (.pointer (some ⟨rp, 0, none⟩) : Value),
    fun (y : Value) (u : World) => y = (.pointer (some ⟨rp, 1, none⟩) : Value),
    fun (y : Value) (u : World) => y = (.int .i64 (n : Int) : Value),
    fun (y : Value) (u : World) => y = (.pointer (some ⟨rp, 0, none⟩) : Value),
    fun (y : Value) (u : World) => y = (.pointer (some ⟨rp, 0, none⟩) : Value),
    fun (y : Value) (u : World) => y = (.pointer (some ⟨rp, 0, none⟩) : Value),
    fun (y : Value) (u : World) => y = (.slice AL NL cL : Value),
    fun (y : Value) (u : World) => y = (.int .i64 (NL : Int) : Value),
    fun (y : Value) (u : World) => y = (.bool true : Value)]
    (by kernel_rfl) (by kernel_rfl) (by kernel_rfl) (by kernel_rfl) ((Kp.refl _).drew) (fun _ _ hk h => h.trans hk) ⟨fun _ _ _ _ h => h, fun _ _ _ _ h => h, fun _ _ _ _ h => h, fun _ _ _ _ h => h, fun _ _ _ _ h => h, fun _ _ _ _ h => h, fun _ _ _ _ h => h, fun _ _ _ _ h => h, fun _ _ _ _ h => h, fun _ _ _ _ h => h, trivial⟩ ⟨?sc0, ?sc1, ?sc2, ?sc3, ?sc4, ?sc5, ?sc6, ?sc7, ?sc8, ?sc9, trivial⟩ ?hEc
   case sc0 =>
    intro x u hg hd K hK
    clear hd
    refine ⟨?_⟩
    simp only [putsFrom, Act.put, List.setIfInBounds_toArray, List.set_cons_zero, List.set_cons_succ, Nat.reduceAdd] at hK ⊢
    go_simp
    exact hK.out _ _ (Kp.refl _) rfl
   case sc1 =>
    intro x u hg hd K hK
    have d0 : (x 0) = .pointer (some ⟨rp, 0, none⟩) := hd.1
    clear hd
    refine ⟨?_⟩
    simp only [putsFrom, Act.put, List.setIfInBounds_toArray, List.set_cons_zero, List.set_cons_succ, Nat.reduceAdd, d0] at hK ⊢
    go_simp
    exact hK.out _ _ (Kp.refl _) rfl
   case sc2 =>
    intro x u hg hd K hK
    have d1 : (x 1) = .pointer (some ⟨rp, 0, none⟩) := hd.1
    clear hd
    refine ⟨?_⟩
    simp only [putsFrom, Act.put, List.setIfInBounds_toArray, List.set_cons_zero, List.set_cons_succ, Nat.reduceAdd, d1] at hK ⊢
    go_simp
    exact hK.out _ _ (Kp.refl _) rfl
   case sc3 =>
    intro x u hg hd K hK
    have d2 : (x 2) = .pointer (some ⟨rp, 1, none⟩) := hd.1
    clear hd
    have q0 := cell_kp hg lt q1
    refine ⟨?_⟩
    simp only [putsFrom, Act.put, List.setIfInBounds_toArray, List.set_cons_zero, List.set_cons_succ, Nat.reduceAdd, d2] at hK ⊢
    go_simp
    exact hK.out _ _ (Kp.refl _) rfl
   case sc4 =>
    intro x u hg hd K hK
    clear hd
    refine ⟨?_⟩
    simp only [putsFrom, Act.put, List.setIfInBounds_toArray, List.set_cons_zero, List.set_cons_succ, Nat.reduceAdd] at hK ⊢
    go_simp
    exact hK.out _ _ (Kp.refl _) rfl
   case sc5 =>
    intro x u hg hd K hK
    have d4 : (x 4) = .pointer (some ⟨rp, 0, none⟩) := hd.1
    clear hd
    refine ⟨?_⟩
    simp only [putsFrom, Act.put, List.setIfInBounds_toArray, List.set_cons_zero, List.set_cons_succ, Nat.reduceAdd, d4] at hK ⊢
    go_simp
    exact hK.out _ _ (Kp.refl _) rfl
   case sc6 =>
    intro x u hg hd K hK
    have d5 : (x 5) = .pointer (some ⟨rp, 0, none⟩) := hd.1
    clear hd
    refine ⟨?_⟩
    simp only [putsFrom, Act.put, List.setIfInBounds_toArray, List.set_cons_zero, List.set_cons_succ, Nat.reduceAdd, d5] at hK ⊢
    go_simp
    exact hK.out _ _ (Kp.refl _) rfl
   case sc7 =>
    intro x u hg hd K hK
    have d6 : (x 6) = .pointer (some ⟨rp, 0, none⟩) := hd.1
    clear hd
    have q0 := cell_kp hg lt q0
    refine ⟨?_⟩
    simp only [putsFrom, Act.put, List.setIfInBounds_toArray, List.set_cons_zero, List.set_cons_succ, Nat.reduceAdd, d6] at hK ⊢
    go_simp
    exact hK.out _ _ (Kp.refl _) rfl
   case sc8 =>
    intro x u hg hd K hK
    have d7 : (x 7) = .slice AL NL cL := hd.1
    clear hd
    refine ⟨?_⟩
    simp only [putsFrom, Act.put, List.setIfInBounds_toArray, List.set_cons_zero, List.set_cons_succ, Nat.reduceAdd, d7] at hK ⊢
    go_simp
    exact hK.out _ _ (Kp.refl _) rfl
   case sc9 =>
    intro x u hg hd K hK
    have d3 : (x 3) = .int .i64 (n : Int) := hd.1
    have d8 : (x 8) = .int .i64 (NL : Int) := hd.2.1
    clear hd
    refine ⟨?_⟩
    simp only [putsFrom, Act.put, List.setIfInBounds_toArray, List.set_cons_zero, List.set_cons_succ, Nat.reduceAdd, d3, d8] at hK ⊢
    go_simp
    exact hK.out _ _ (Kp.refl _) rfl
   intro x u hg he
   have d0 : (x 0) = .pointer (some ⟨rp, 0, none⟩) := he.1
   have d1 : (x 1) = .pointer (some ⟨rp, 0, none⟩) := he.2.1
   have d2 : (x 2) = .pointer (some ⟨rp, 1, none⟩) := he.2.2.1
   have d3 : (x 3) = .int .i64 (n : Int) := he.2.2.2.1
   have d4 : (x 4) = .pointer (some ⟨rp, 0, none⟩) := he.2.2.2.2.1
   have d5 : (x 5) = .pointer (some ⟨rp, 0, none⟩) := he.2.2.2.2.2.1
   have d6 : (x 6) = .pointer (some ⟨rp, 0, none⟩) := he.2.2.2.2.2.2.1
   have d7 : (x 7) = .slice AL NL cL := he.2.2.2.2.2.2.2.1
   have d8 : (x 8) = .int .i64 (NL : Int) := he.2.2.2.2.2.2.2.2.1
   have d9 : (x 9) = .bool true := he.2.2.2.2.2.2.2.2.2.1
   clear he
   refine ⟨?_⟩
   simp only [putsFrom, Act.put, List.setIfInBounds_toArray, List.set_cons_zero, List.set_cons_succ, Nat.reduceAdd, d0, d1, d2, d3, d4, d5, d6, d7, d8, d9]
   clear d0 d1 d2 d3 d4 d5 d6 d7 d8 d9
   have HS := hid (HS.out.kp hg)
   clear hg lt q0 q1 hlen
   obtain ⟨W1, hW1⟩ : ∃ x, x = u := ⟨_, rfl⟩
   subst hW1
   clear i1
   by_cases k6 : kindOf l' = 6
   ·rw [if_pos k6] at hr
    have HR := hid hr
    have hlt := kind_pos k6 (by decide)
    clear hr
    go_wp2_with (go_at_call 16; go_must (refine (t_kind HS.out).mono ?_); rintro e wn ⟨rfl, hs, hk⟩; rw [k6]; have HS := hid hs; have hl0 := h0; clear hk; have hs := StT.pass hs hl0; obtain ⟨n, n1, p1, p2, p3, p4, p5⟩ := hs; have HP4 := hid p4; clear p4 p5; )
    exact ⟨⟨g, us, l'.tail, A, c, HR.out, rfl, StT.weak HP4.out (by omega)⟩, by rw [HAT.out, HP4.out.at_]; omega⟩
   rw [if_neg k6] at hr
   obtain ⟨kk, ckk⟩ : ∃ kk, kindOf l' = kk := ⟨_, rfl⟩
   have k1 : (kk == 6) = false := by rw [beq_eq_false_iff_ne]; rw [← ckk]; exact k6
   clear k6
   by_cases d : isSign kFunc l' = true
   rotate_left
   ·have d2 := eq_false_of_ne_true d
    have HT := hid (show Pr.bad = R by rw [← hr]; simp [want, d2, Pr.bind])
    clear hr d
    go_upto_region 5 with (go_at_call 16; go_must (refine (t_kind HS.out).mono ?_); rintro e wn ⟨rfl, hs, hk⟩; rw [ckk]; have HS := hid hs; clear hs hk)
    go_wp2_with (go_at_call 17; go_must (refine (t_wantN ⟨#[102, 117, 110, 99]⟩ [102, 117, 110, 99] rfl HS.out d2).mono ?_); rintro e wn ⟨rfl, hb, hk⟩; unfold stopP; have HB := hid hb; clear hb hk)
    rw [← HT.out]
    exact ⟨rfl, rfl, HB.out⟩
   have hlt0 := sign_pos d
   rw [want, if_pos d] at hr
   simp only [Pr.bind] at hr
   by_cases n1 : kindOf l'.tail = 1
   rotate_left
   ·rw [nmM, if_neg n1] at hr
    have HT := hid hr
    clear hr
    go_upto_region 5 with (go_at_call 16; go_must (refine (t_kind HS.out).mono ?_); rintro e wn ⟨rfl, hs, hk⟩; rw [ckk]; have HS := hid hs; clear hs hk)
    go_upto_region 6 with (go_at_call 17; go_must (refine (t_want ⟨#[102, 117, 110, 99]⟩ [102, 117, 110, 99] rfl HS.out d).mono ?_); rintro e wn ⟨rfl, hs, hk⟩; have HS := hid hs; clear hs hk)
    go_wp2_with (go_at_call 18; go_must (refine (t_nameN HS.out n1).mono ?_); rintro e wn ⟨rfl, hb, hk⟩; unfold stopP; have HB := hid hb; clear hb hk)
    rw [← HT.out]
    exact ⟨rfl, rfl, HB.out⟩
   have hlt1 := kind_pos n1 (by decide)
   rw [nmM, if_pos n1] at hr
   simp only at hr
   cases hu : funF g 2 (textOf l'.tail) l'.tail.tail with
   | out => exact absurd (by rw [← hr, hu]) HNE.out
   | bad =>
    have hnu : funF g 2 (textOf l'.tail) l'.tail.tail ≠ .out := by rw [hu]; intro e; cases e
    rw [hu] at hr
    have HT := hid hr
    clear hr
    go_upto_region 5 with (go_at_call 16; go_must (refine (t_kind HS.out).mono ?_); rintro e wn ⟨rfl, hs, hk⟩; rw [ckk]; have HS := hid hs; clear hs hk)
    go_upto_region 6 with (go_at_call 17; go_must (refine (t_want ⟨#[102, 117, 110, 99]⟩ [102, 117, 110, 99] rfl HS.out d).mono ?_); rintro e wn ⟨rfl, hs, hk⟩; have HS := hid hs; clear hs hk)
    have htx := HS.out.text_ok
    go_upto_region 7 with (go_at_call 18; go_must (refine (t_name HS.out n1).mono ?_); rintro e wn ⟨rfl, hs, hk⟩; have HS := hid hs; clear hs hk)
    go_wp2_with (go_at_call 19; go_must (refine (((ctr g).fun_ 2 (textOf l'.tail) (by unfold okI; omega) htx HS.out hnu).mono fun _ _ x => Res.bad x hu).mono ?_); rintro e wn ⟨rfl, hb⟩; unfold stopP; have HB := hid hb; clear hb)
    rw [← HT.out]
    exact ⟨rfl, rfl, HB.out⟩
   | ok a r2 =>
    have hnu : funF g 2 (textOf l'.tail) l'.tail.tail ≠ .out := by rw [hu]; intro e; cases e
    rw [hu] at hr
    simp only at hr
    have hlt2 := fun_lt hu
    by_cases r0 : r2 = []
    ·have HR2 := hid (show filesF g (us ++ [a]) r2 = R by rw [← hr, if_pos (.inl r0)])
     clear hr
     go_upto_region 5 with (go_at_call 16; go_must (refine (t_kind HS.out).mono ?_); rintro e wn ⟨rfl, hs, hk⟩; rw [ckk]; have HS := hid hs; clear hs hk)
     go_upto_region 6 with (go_at_call 17; go_must (refine (t_want ⟨#[102, 117, 110, 99]⟩ [102, 117, 110, 99] rfl HS.out d).mono ?_); rintro e wn ⟨rfl, hs, hk⟩; have HS := hid hs; clear hs hk)
     have htx := HS.out.text_ok
     go_upto_region 7 with (go_at_call 18; go_must (refine (t_name HS.out n1).mono ?_); rintro e wn ⟨rfl, hs, hk⟩; have HS := hid hs; clear hs hk)
     go_upto_region 8 with first | (go_at_call 19; go_must (refine (((ctr g).fun_ 2 (textOf l'.tail) (by unfold okI; omega) htx HS.out hnu).mono fun _ _ x => Res.ok x hu).mono ?_); rintro e wn ⟨q, rfl, hqq, hs⟩; have HQq := hid hqq; clear hqq; have HS := hid hs; clear hs) | (at_builtin; go_must (refine t_app rfl (.tmp 29) (.tmp 33) rfl (ts := []) (us := us) HS.out HQq.out rfl rfl ?_); intro A1 c1 wn hs; have HS := hid hs; clear hs)
     obtain ⟨W9, hW9⟩ : ∃ x, x = wn := ⟨_, rfl⟩
     subst hW9
     clear hu hnu
     obtain ⟨AL, cL, n, NL, lt, q0, q1, hlen⟩ := HS.out.look1
     have i1 : ¬ (n : Int) < (NL : Int) := by rw [r0] at hlen; simp at hlen; omega
     clear r0
     refine wp_region_kp [[], [0], [1], [2], [], [4], [5], [6], [7], [3, 8], [9], [10], [10, 11], [10, 12], [10, 13]] (fun u => Kp W9 u)
      [fun (y : Value) (u : World) => y = (.pointer (some ⟨rp, 0, none⟩) : Value),
      fun (y : Value) (u : World) => y = (.pointer (some ⟨rp, 0, none⟩) : Value),
      fun (y : Value) (u : World) => y = (.pointer (some ⟨rp, 1, none⟩) : Value),
      fun (y : Value) (u : World) => y = (.int .i64 (n : Int) : Value),
      fun (y : Value) (u : World) => y = (.pointer (some ⟨rp, 0, none⟩) : Value),
      fun (y : Value) (u : World) => y = (.pointer (some ⟨rp, 0, none⟩) : Value),
      fun (y : Value) (u : World) => y = (.pointer (some ⟨rp, 0, none⟩) : Value),
      fun (y : Value) (u : World) => y = (.slice AL NL cL : Value),
      fun (y : Value) (u : World) => y = (.int .i64 (NL : Int) : Value),
      fun (y : Value) (u : World) => y = (.bool false : Value),
      fun (y : Value) (u : World) => y = (.bool false : Value),
      fun (y : Value) (u : World) => y = (undef : Value),
      fun (y : Value) (u : World) => y = (undef : Value),
      fun (y : Value) (u : World) => y = (undef : Value),
      fun (y : Value) (u : World) => y = (.bool false : Value)]
      (by kernel_rfl) (by kernel_rfl) (by kernel_rfl) (by kernel_rfl) ((Kp.refl _).drew) (fun _ _ hk h => h.trans hk) ⟨fun _ _ _ _ h => h, fun _ _ _ _ h => h, fun _ _ _ _ h => h, fun _ _ _ _ h => h, fun _ _ _ _ h => h, fun _ _ _ _ h => h, fun _ _ _ _ h => h, fun _ _ _ _ h => h, fun _ _ _ _ h => h, fun _ _ _ _ h => h, fun _ _ _ _ h => h, fun _ _ _ _ h => h, fun _ _ _ _ h => h, fun _ _ _ _ h => h, fun _ _ _ _ h => h, trivial⟩ ⟨?sd0, ?sd1, ?sd2, ?sd3, ?sd4, ?sd5, ?sd6, ?sd7, ?sd8, ?sd9, ?sd10, ?sd11, ?sd12, ?sd13, ?sd14, trivial⟩ ?hEd
     case sd0 =>
      intro x u hg hd K hK
      clear hd
      refine ⟨?_⟩
      simp only [putsFrom, Act.put, List.setIfInBounds_toArray, List.set_cons_zero, List.set_cons_succ, Nat.reduceAdd] at hK ⊢
      go_simp
      exact hK.out _ _ (Kp.refl _) rfl
     case sd1 =>
      intro x u hg hd K hK
      have d0 : (x 0) = .pointer (some ⟨rp, 0, none⟩) := hd.1
      clear hd
      refine ⟨?_⟩
      simp only [putsFrom, Act.put, List.setIfInBounds_toArray, List.set_cons_zero, List.set_cons_succ, Nat.reduceAdd, d0] at hK ⊢
      go_simp
      exact hK.out _ _ (Kp.refl _) rfl
     case sd2 =>
      intro x u hg hd K hK
      have d1 : (x 1) = .pointer (some ⟨rp, 0, none⟩) := hd.1
      clear hd
      refine ⟨?_⟩
      simp only [putsFrom, Act.put, List.setIfInBounds_toArray, List.set_cons_zero, List.set_cons_succ, Nat.reduceAdd, d1] at hK ⊢
      go_simp
      exact hK.out _ _ (Kp.refl _) rfl
     case sd3 =>
      intro x u hg hd K hK
      have d2 : (x 2) = .pointer (some ⟨rp, 1, none⟩) := hd.1
      clear hd
      have q0 := cell_kp hg lt q1
      refine ⟨?_⟩
      simp only [putsFrom, Act.put, List.setIfInBounds_toArray, List.set_cons_zero, List.set_cons_succ, Nat.reduceAdd, d2] at hK ⊢
      go_simp
      exact hK.out _ _ (Kp.refl _) rfl
     case sd4 =>
      intro x u hg hd K hK
      clear hd
      refine ⟨?_⟩
      simp only [putsFrom, Act.put, List.setIfInBounds_toArray, List.set_cons_zero, List.set_cons_succ, Nat.reduceAdd] at hK ⊢
      go_simp
      exact hK.out _ _ (Kp.refl _) rfl
     case sd5 =>
      intro x u hg hd K hK
      have d4 : (x 4) = .pointer (some ⟨rp, 0, none⟩) := hd.1
      clear hd
      refine ⟨?_⟩
      simp only [putsFrom, Act.put, List.setIfInBounds_toArray, List.set_cons_zero, List.set_cons_succ, Nat.reduceAdd, d4] at hK ⊢
      go_simp
      exact hK.out _ _ (Kp.refl _) rfl
     case sd6 =>
      intro x u hg hd K hK
      have d5 : (x 5) = .pointer (some ⟨rp, 0, none⟩) := hd.1
      clear hd
      refine ⟨?_⟩
      simp only [putsFrom, Act.put, List.setIfInBounds_toArray, List.set_cons_zero, List.set_cons_succ, Nat.reduceAdd, d5] at hK ⊢
      go_simp
      exact hK.out _ _ (Kp.refl _) rfl
     case sd7 =>
      intro x u hg hd K hK
      have d6 : (x 6) = .pointer (some ⟨rp, 0, none⟩) := hd.1
      clear hd
      have q0 := cell_kp hg lt q0
      refine ⟨?_⟩
      simp only [putsFrom, Act.put, List.setIfInBounds_toArray, List.set_cons_zero, List.set_cons_succ, Nat.reduceAdd, d6] at hK ⊢
      go_simp
      exact hK.out _ _ (Kp.refl _) rfl
     case sd8 =>
      intro x u hg hd K hK
      have d7 : (x 7) = .slice AL NL cL := hd.1
      clear hd
      refine ⟨?_⟩
      simp only [putsFrom, Act.put, List.setIfInBounds_toArray, List.set_cons_zero, List.set_cons_succ, Nat.reduceAdd, d7] at hK ⊢
      go_simp
      exact hK.out _ _ (Kp.refl _) rfl
     case sd9 =>
      intro x u hg hd K hK
      have d3 : (x 3) = .int .i64 (n : Int) := hd.1
      have d8 : (x 8) = .int .i64 (NL : Int) := hd.2.1
      clear hd
      refine ⟨?_⟩
      simp only [putsFrom, Act.put, List.setIfInBounds_toArray, List.set_cons_zero, List.set_cons_succ, Nat.reduceAdd, d3, d8] at hK ⊢
      go_simp
      exact hK.out _ _ (Kp.refl _) rfl
     case sd10 =>
      intro x u hg hd K hK
      have d9 : (x 9) = .bool false := hd.1
      clear hd
      refine ⟨?_⟩
      simp only [putsFrom, Act.put, List.setIfInBounds_toArray, List.set_cons_zero, List.set_cons_succ, Nat.reduceAdd, d9] at hK ⊢
      go_simp
      exact hK.out _ _ (Kp.refl _) rfl
     case sd11 =>
      intro x u hg hd K hK
      have d10 : (x 10) = .bool false := hd.1
      clear hd
      refine ⟨?_⟩
      simp only [putsFrom, Act.put, List.setIfInBounds_toArray, List.set_cons_zero, List.set_cons_succ, Nat.reduceAdd, d10] at hK ⊢
      go_simp
      exact hK.out _ _ (Kp.refl _) rfl
     case sd12 =>
      intro x u hg hd K hK
      have d10 : (x 10) = .bool false := hd.1
      have d11 : (x 11) = undef := hd.2.1
      clear hd
      refine ⟨?_⟩
      simp only [putsFrom, Act.put, List.setIfInBounds_toArray, List.set_cons_zero, List.set_cons_succ, Nat.reduceAdd, d10, d11] at hK ⊢
      go_simp
      exact hK.out _ _ (Kp.refl _) rfl
     case sd13 =>
      intro x u hg hd K hK
      have d10 : (x 10) = .bool false := hd.1
      have d12 : (x 12) = undef := hd.2.1
      clear hd
      refine ⟨?_⟩
      simp only [putsFrom, Act.put, List.setIfInBounds_toArray, List.set_cons_zero, List.set_cons_succ, Nat.reduceAdd, d10, d12] at hK ⊢
      go_simp
      exact hK.out _ _ (Kp.refl _) rfl
     case sd14 =>
      intro x u hg hd K hK
      have d10 : (x 10) = .bool false := hd.1
      have d13 : (x 13) = undef := hd.2.1
      clear hd
      refine ⟨?_⟩
      simp only [putsFrom, Act.put, List.setIfInBounds_toArray, List.set_cons_zero, List.set_cons_succ, Nat.reduceAdd, d10, d13] at hK ⊢
      go_simp
      exact hK.out _ _ (Kp.refl _) rfl
     intro x u hg he
     have d0 : (x 0) = .pointer (some ⟨rp, 0, none⟩) := he.1
     have d1 : (x 1) = .pointer (some ⟨rp, 0, none⟩) := he.2.1
     have d2 : (x 2) = .pointer (some ⟨rp, 1, none⟩) := he.2.2.1
     have d3 : (x 3) = .int .i64 (n : Int) := he.2.2.2.1
     have d4 : (x 4) = .pointer (some ⟨rp, 0, none⟩) := he.2.2.2.2.1
     have d5 : (x 5) = .pointer (some ⟨rp, 0, none⟩) := he.2.2.2.2.2.1
     have d6 : (x 6) = .pointer (some ⟨rp, 0, none⟩) := he.2.2.2.2.2.2.1
     have d7 : (x 7) = .slice AL NL cL := he.2.2.2.2.2.2.2.1
     have d8 : (x 8) = .int .i64 (NL : Int) := he.2.2.2.2.2.2.2.2.1
     have d9 : (x 9) = .bool false := he.2.2.2.2.2.2.2.2.2.1
     have d10 : (x 10) = .bool false := he.2.2.2.2.2.2.2.2.2.2.1
     have d11 : (x 11) = undef := he.2.2.2.2.2.2.2.2.2.2.2.1
     have d12 : (x 12) = undef := he.2.2.2.2.2.2.2.2.2.2.2.2.1
     have d13 : (x 13) = undef := he.2.2.2.2.2.2.2.2.2.2.2.2.2.1
     have d14 : (x 14) = .bool false := he.2.2.2.2.2.2.2.2.2.2.2.2.2.2.1
     clear he
     refine ⟨?_⟩
     simp only [putsFrom, Act.put, List.setIfInBounds_toArray, List.set_cons_zero, List.set_cons_succ, Nat.reduceAdd, d0, d1, d2, d3, d4, d5, d6, d7, d8, d9, d10, d11, d12, d13, d14]
     clear d0 d1 d2 d3 d4 d5 d6 d7 d8 d9 d10 d11 d12 d13 d14
     have HS := hid (HS.out.kp hg)
     clear hg lt q0 q1 hlen
     go_wp2_with fail
     exact ⟨⟨g, us ++ [a], r2, A1, c1, HR2.out, by simp, by rw [List.length_append]; exact StT.weak HS.out (by omega)⟩, by rw [HAT.out, HS.out.at_]; omega⟩
    have hpos := List.length_pos_iff.2 r0
    by_cases m6 : kindOf r2 = 6
    ·have HR2 := hid (show filesF g (us ++ [a]) r2 = R by rw [← hr, if_pos (.inr m6)])
     clear hr r0
     go_upto_region 5 with (go_at_call 16; go_must (refine (t_kind HS.out).mono ?_); rintro e wn ⟨rfl, hs, hk⟩; rw [ckk]; have HS := hid hs; clear hs hk)
     go_upto_region 6 with (go_at_call 17; go_must (refine (t_want ⟨#[102, 117, 110, 99]⟩ [102, 117, 110, 99] rfl HS.out d).mono ?_); rintro e wn ⟨rfl, hs, hk⟩; have HS := hid hs; clear hs hk)
     have htx := HS.out.text_ok
     go_upto_region 7 with (go_at_call 18; go_must (refine (t_name HS.out n1).mono ?_); rintro e wn ⟨rfl, hs, hk⟩; have HS := hid hs; clear hs hk)
     go_upto_region 8 with first | (go_at_call 19; go_must (refine (((ctr g).fun_ 2 (textOf l'.tail) (by unfold okI; omega) htx HS.out hnu).mono fun _ _ x => Res.ok x hu).mono ?_); rintro e wn ⟨q, rfl, hqq, hs⟩; have HQq := hid hqq; clear hqq; have HS := hid hs; clear hs) | (at_builtin; go_must (refine t_app rfl (.tmp 29) (.tmp 33) rfl (ts := []) (us := us) HS.out HQq.out rfl rfl ?_); intro A1 c1 wn hs; have HS := hid hs; clear hs)
     obtain ⟨W9, hW9⟩ : ∃ x, x = wn := ⟨_, rfl⟩
     subst hW9
     clear hu hnu
     obtain ⟨AL, cL, n, NL, lt, q0, q1, hlen⟩ := HS.out.look1
     have HE := hid (show PrsE W9 rp L r2 (P ++ Na ++ HS.out.choose) _ from HS.out.choose_spec.prs)
     have i1 : (n : Int) < (NL : Int) := by omega
     refine wp_region_kp [[], [0], [1], [2], [], [4], [5], [6], [7], [3, 8], [9], [10], [10, 11], [10, 12], [10, 13]] (fun u => Kp W9 u)
      [fun (y : Value) (u : World) => y = (.pointer (some ⟨rp, 0, none⟩) : Value),
      fun (y : Value) (u : World) => y = (.pointer (some ⟨rp, 0, none⟩) : Value),
      fun (y : Value) (u : World) => y = (.pointer (some ⟨rp, 1, none⟩) : Value),
      fun (y : Value) (u : World) => y = (.int .i64 (n : Int) : Value),
      fun (y : Value) (u : World) => y = (.pointer (some ⟨rp, 0, none⟩) : Value),
      fun (y : Value) (u : World) => y = (.pointer (some ⟨rp, 0, none⟩) : Value),
      fun (y : Value) (u : World) => y = (.pointer (some ⟨rp, 0, none⟩) : Value),
      fun (y : Value) (u : World) => y = (.slice AL NL cL : Value),
      fun (y : Value) (u : World) => y = (.int .i64 (NL : Int) : Value),
      fun (y : Value) (u : World) => y = (.bool true : Value),
      fun (y : Value) (u : World) => y = (.bool true : Value),
      fun (y : Value) (u : World) => y = (.pointer (some ⟨rp, 0, none⟩) : Value),
      fun (y : Value) (u : World) => y = (.int .i64 6 : Value),
      fun (y : Value) (u : World) => y = (.bool false : Value),
      fun (y : Value) (u : World) => y = (.bool false : Value)]
      (by kernel_rfl) (by kernel_rfl) (by kernel_rfl) (by kernel_rfl) ((Kp.refl _).drew) (fun _ _ hk h => h.trans hk) ⟨fun _ _ _ _ h => h, fun _ _ _ _ h => h, fun _ _ _ _ h => h, fun _ _ _ _ h => h, fun _ _ _ _ h => h, fun _ _ _ _ h => h, fun _ _ _ _ h => h, fun _ _ _ _ h => h, fun _ _ _ _ h => h, fun _ _ _ _ h => h, fun _ _ _ _ h => h, fun _ _ _ _ h => h, fun _ _ _ _ h => h, fun _ _ _ _ h => h, fun _ _ _ _ h => h, trivial⟩ ⟨?se0, ?se1, ?se2, ?se3, ?se4, ?se5, ?se6, ?se7, ?se8, ?se9, ?se10, ?se11, ?se12, ?se13, ?se14, trivial⟩ ?hEe
     case se0 =>
      intro x u hg hd K hK
      clear hd
      refine ⟨?_⟩
      simp only [putsFrom, Act.put, List.setIfInBounds_toArray, List.set_cons_zero, List.set_cons_succ, Nat.reduceAdd] at hK ⊢
      go_simp
      exact hK.out _ _ (Kp.refl _) rfl
     case se1 =>
      intro x u hg hd K hK
      have d0 : (x 0) = .pointer (some ⟨rp, 0, none⟩) := hd.1
      clear hd
      refine ⟨?_⟩
      simp only [putsFrom, Act.put, List.setIfInBounds_toArray, List.set_cons_zero, List.set_cons_succ, Nat.reduceAdd, d0] at hK ⊢
      go_simp
      exact hK.out _ _ (Kp.refl _) rfl
     case se2 =>
      intro x u hg hd K hK
      have d1 : (x 1) = .pointer (some ⟨rp, 0, none⟩) := hd.1
      clear hd
      refine ⟨?_⟩
      simp only [putsFrom, Act.put, List.setIfInBounds_toArray, List.set_cons_zero, List.set_cons_succ, Nat.reduceAdd, d1] at hK ⊢
      go_simp
      exact hK.out _ _ (Kp.refl _) rfl
     case se3 =>
      intro x u hg hd K hK
      have d2 : (x 2) = .pointer (some ⟨rp, 1, none⟩) := hd.1
      clear hd
      have q0 := cell_kp hg lt q1
      refine ⟨?_⟩
      simp only [putsFrom, Act.put, List.setIfInBounds_toArray, List.set_cons_zero, List.set_cons_succ, Nat.reduceAdd, d2] at hK ⊢
      go_simp
      exact hK.out _ _ (Kp.refl _) rfl
     case se4 =>
      intro x u hg hd K hK
      clear hd
      refine ⟨?_⟩
      simp only [putsFrom, Act.put, List.setIfInBounds_toArray, List.set_cons_zero, List.set_cons_succ, Nat.reduceAdd] at hK ⊢
      go_simp
      exact hK.out _ _ (Kp.refl _) rfl
     case se5 =>
      intro x u hg hd K hK
      have d4 : (x 4) = .pointer (some ⟨rp, 0, none⟩) := hd.1
      clear hd
      refine ⟨?_⟩
      simp only [putsFrom, Act.put, List.setIfInBounds_toArray, List.set_cons_zero, List.set_cons_succ, Nat.reduceAdd, d4] at hK ⊢
      go_simp
      exact hK.out _ _ (Kp.refl _) rfl
     case se6 =>
      intro x u hg hd K hK
      have d5 : (x 5) = .pointer (some ⟨rp, 0, none⟩) := hd.1
      clear hd
      refine ⟨?_⟩
      simp only [putsFrom, Act.put, List.setIfInBounds_toArray, List.set_cons_zero, List.set_cons_succ, Nat.reduceAdd, d5] at hK ⊢
      go_simp
      exact hK.out _ _ (Kp.refl _) rfl
     case se7 =>
      intro x u hg hd K hK
      have d6 : (x 6) = .pointer (some ⟨rp, 0, none⟩) := hd.1
      clear hd
      have q0 := cell_kp hg lt q0
      refine ⟨?_⟩
      simp only [putsFrom, Act.put, List.setIfInBounds_toArray, List.set_cons_zero, List.set_cons_succ, Nat.reduceAdd, d6] at hK ⊢
      go_simp
      exact hK.out _ _ (Kp.refl _) rfl
     case se8 =>
      intro x u hg hd K hK
      have d7 : (x 7) = .slice AL NL cL := hd.1
      clear hd
      refine ⟨?_⟩
      simp only [putsFrom, Act.put, List.setIfInBounds_toArray, List.set_cons_zero, List.set_cons_succ, Nat.reduceAdd, d7] at hK ⊢
      go_simp
      exact hK.out _ _ (Kp.refl _) rfl
     case se9 =>
      intro x u hg hd K hK
      have d3 : (x 3) = .int .i64 (n : Int) := hd.1
      have d8 : (x 8) = .int .i64 (NL : Int) := hd.2.1
      clear hd
      refine ⟨?_⟩
      simp only [putsFrom, Act.put, List.setIfInBounds_toArray, List.set_cons_zero, List.set_cons_succ, Nat.reduceAdd, d3, d8] at hK ⊢
      go_simp
      exact hK.out _ _ (Kp.refl _) rfl
     case se10 =>
      intro x u hg hd K hK
      have d9 : (x 9) = .bool true := hd.1
      clear hd
      refine ⟨?_⟩
      simp only [putsFrom, Act.put, List.setIfInBounds_toArray, List.set_cons_zero, List.set_cons_succ, Nat.reduceAdd, d9] at hK ⊢
      go_simp
      exact hK.out _ _ (Kp.refl _) rfl
     case se11 =>
      intro x u hg hd K hK
      have d10 : (x 10) = .bool true := hd.1
      clear hd
      refine ⟨?_⟩
      simp only [putsFrom, Act.put, List.setIfInBounds_toArray, List.set_cons_zero, List.set_cons_succ, Nat.reduceAdd, d10] at hK ⊢
      go_simp
      exact hK.out _ _ (Kp.refl _) rfl
     case se12 =>
      intro x u hg hd K hK
      have d10 : (x 10) = .bool true := hd.1
      have d11 : (x 11) = .pointer (some ⟨rp, 0, none⟩) := hd.2.1
      clear hd
      refine ⟨?_⟩
      simp only [putsFrom, Act.put, List.setIfInBounds_toArray, List.set_cons_zero, List.set_cons_succ, Nat.reduceAdd, d10, d11] at hK ⊢
      go_simp
      go_at_call 16
      have hc := (kind_any u rp (HE.out.kp hg))
      refine hc.mono ?_
      clear hc
      rintro e u' ⟨rfl, hk9⟩
      dsimp only
      exact hK.out _ _ hk9 (by rw [m6]; rfl)
     case se13 =>
      intro x u hg hd K hK
      have d10 : (x 10) = .bool true := hd.1
      have d12 : (x 12) = .int .i64 6 := hd.2.1
      clear hd
      refine ⟨?_⟩
      simp only [putsFrom, Act.put, List.setIfInBounds_toArray, List.set_cons_zero, List.set_cons_succ, Nat.reduceAdd, d10, d12] at hK ⊢
      go_simp
      exact hK.out _ _ (Kp.refl _) rfl
     case se14 =>
      intro x u hg hd K hK
      have d10 : (x 10) = .bool true := hd.1
      have d13 : (x 13) = .bool false := hd.2.1
      clear hd
      refine ⟨?_⟩
      simp only [putsFrom, Act.put, List.setIfInBounds_toArray, List.set_cons_zero, List.set_cons_succ, Nat.reduceAdd, d10, d13] at hK ⊢
      go_simp
      exact hK.out _ _ (Kp.refl _) rfl
     intro x u hg he
     have d0 : (x 0) = .pointer (some ⟨rp, 0, none⟩) := he.1
     have d1 : (x 1) = .pointer (some ⟨rp, 0, none⟩) := he.2.1
     have d2 : (x 2) = .pointer (some ⟨rp, 1, none⟩) := he.2.2.1
     have d3 : (x 3) = .int .i64 (n : Int) := he.2.2.2.1
     have d4 : (x 4) = .pointer (some ⟨rp, 0, none⟩) := he.2.2.2.2.1
     have d5 : (x 5) = .pointer (some ⟨rp, 0, none⟩) := he.2.2.2.2.2.1
     have d6 : (x 6) = .pointer (some ⟨rp, 0, none⟩) := he.2.2.2.2.2.2.1
     have d7 : (x 7) = .slice AL NL cL := he.2.2.2.2.2.2.2.1
     have d8 : (x 8) = .int .i64 (NL : Int) := he.2.2.2.2.2.2.2.2.1
     have d9 : (x 9) = .bool true := he.2.2.2.2.2.2.2.2.2.1
     have d10 : (x 10) = .bool true := he.2.2.2.2.2.2.2.2.2.2.1
     have d11 : (x 11) = .pointer (some ⟨rp, 0, none⟩) := he.2.2.2.2.2.2.2.2.2.2.2.1
     have d12 : (x 12) = .int .i64 6 := he.2.2.2.2.2.2.2.2.2.2.2.2.1
     have d13 : (x 13) = .bool false := he.2.2.2.2.2.2.2.2.2.2.2.2.2.1
     have d14 : (x 14) = .bool false := he.2.2.2.2.2.2.2.2.2.2.2.2.2.2.1
     clear he
     refine ⟨?_⟩
     simp only [putsFrom, Act.put, List.setIfInBounds_toArray, List.set_cons_zero, List.set_cons_succ, Nat.reduceAdd, d0, d1, d2, d3, d4, d5, d6, d7, d8, d9, d10, d11, d12, d13, d14]
     clear d0 d1 d2 d3 d4 d5 d6 d7 d8 d9 d10 d11 d12 d13 d14
     have HS := hid (HS.out.kp hg)
     clear hg lt q0 q1 hlen
     go_wp2_with fail
     exact ⟨⟨g, us ++ [a], r2, A1, c1, HR2.out, by simp, by rw [List.length_append]; exact StT.weak HS.out (by omega)⟩, by rw [HAT.out, HS.out.at_]; omega⟩
    have HT := hid (show Pr.bad = R by rw [← hr, if_neg (by rintro (h | h); exact r0 h; exact m6 h)])
    clear hr
    obtain ⟨mm, cmm⟩ : ∃ mm, kindOf r2 = mm := ⟨_, rfl⟩
    have w1 : (mm == 6) = false := by rw [beq_eq_false_iff_ne]; rw [← cmm]; exact m6
    have w2 : (mm != 6) = true := by rw [bne_iff_ne]; rw [← cmm]; exact m6
    clear r0 m6
    go_upto_region 5 with (go_at_call 16; go_must (refine (t_kind HS.out).mono ?_); rintro e wn ⟨rfl, hs, hk⟩; rw [ckk]; have HS := hid hs; clear hs hk)
    go_upto_region 6 with (go_at_call 17; go_must (refine (t_want ⟨#[102, 117, 110, 99]⟩ [102, 117, 110, 99] rfl HS.out d).mono ?_); rintro e wn ⟨rfl, hs, hk⟩; have HS := hid hs; clear hs hk)
    have htx := HS.out.text_ok
    go_upto_region 7 with (go_at_call 18; go_must (refine (t_name HS.out n1).mono ?_); rintro e wn ⟨rfl, hs, hk⟩; have HS := hid hs; clear hs hk)
    go_upto_region 8 with first | (go_at_call 19; go_must (refine (((ctr g).fun_ 2 (textOf l'.tail) (by unfold okI; omega) htx HS.out hnu).mono fun _ _ x => Res.ok x hu).mono ?_); rintro e wn ⟨q, rfl, hqq, hs⟩; have HQq := hid hqq; clear hqq; have HS := hid hs; clear hs) | (at_builtin; go_must (refine t_app rfl (.tmp 29) (.tmp 33) rfl (ts := []) (us := us) HS.out HQq.out rfl rfl ?_); intro A1 c1 wn hs; have HS := hid hs; clear hs)
    obtain ⟨W9, hW9⟩ : ∃ x, x = wn := ⟨_, rfl⟩
    subst hW9
    clear hu hnu
    obtain ⟨AL, cL, n, NL, lt, q0, q1, hlen⟩ := HS.out.look1
    have HE := hid (show PrsE W9 rp L r2 (P ++ Na ++ HS.out.choose) _ from HS.out.choose_spec.prs)
    have i1 : (n : Int) < (NL : Int) := by omega
    refine wp_region_kp [[], [0], [1], [2], [], [4], [5], [6], [7], [3, 8], [9], [10], [10, 11], [10, 12], [10, 13]] (fun u => Kp W9 u)
     [fun (y : Value) (u : World) => y = (.pointer (some ⟨rp, 0, none⟩) : Value),
     fun (y : Value) (u : World) => y = (.pointer (some ⟨rp, 0, none⟩) : Value),
     fun (y : Value) (u : World) => y = (.pointer (some ⟨rp, 1, none⟩) : Value),
     fun (y : Value) (u : World) => y = (.int .i64 (n : Int) : Value),
     fun (y : Value) (u : World) => y = (.pointer (some ⟨rp, 0, none⟩) : Value),
     fun (y : Value) (u : World) => y = (.pointer (some ⟨rp, 0, none⟩) : Value),
     fun (y : Value) (u : World) => y = (.pointer (some ⟨rp, 0, none⟩) : Value),
     fun (y : Value) (u : World) => y = (.slice AL NL cL : Value),
     fun (y : Value) (u : World) => y = (.int .i64 (NL : Int) : Value),
     fun (y : Value) (u : World) => y = (.bool true : Value),
     fun (y : Value) (u : World) => y = (.bool true : Value),
     fun (y : Value) (u : World) => y = (.pointer (some ⟨rp, 0, none⟩) : Value),
     fun (y : Value) (u : World) => y = (.int .i64 mm : Value),
     fun (y : Value) (u : World) => y = (.bool true : Value),
     fun (y : Value) (u : World) => y = (.bool true : Value)]
     (by kernel_rfl) (by kernel_rfl) (by kernel_rfl) (by kernel_rfl) ((Kp.refl _).drew) (fun _ _ hk h => h.trans hk) ⟨fun _ _ _ _ h => h, fun _ _ _ _ h => h, fun _ _ _ _ h => h, fun _ _ _ _ h => h, fun _ _ _ _ h => h, fun _ _ _ _ h => h, fun _ _ _ _ h => h, fun _ _ _ _ h => h, fun _ _ _ _ h => h, fun _ _ _ _ h => h, fun _ _ _ _ h => h, fun _ _ _ _ h => h, fun _ _ _ _ h => h, fun _ _ _ _ h => h, fun _ _ _ _ h => h, trivial⟩ ⟨?sf0, ?sf1, ?sf2, ?sf3, ?sf4, ?sf5, ?sf6, ?sf7, ?sf8, ?sf9, ?sf10, ?sf11, ?sf12, ?sf13, ?sf14, trivial⟩ ?hEf
    case sf0 =>
     intro x u hg hd K hK
     clear hd
     refine ⟨?_⟩
     simp only [putsFrom, Act.put, List.setIfInBounds_toArray, List.set_cons_zero, List.set_cons_succ, Nat.reduceAdd] at hK ⊢
     go_simp
     exact hK.out _ _ (Kp.refl _) rfl
    case sf1 =>
     intro x u hg hd K hK
     have d0 : (x 0) = .pointer (some ⟨rp, 0, none⟩) := hd.1
     clear hd
     refine ⟨?_⟩
     simp only [putsFrom, Act.put, List.setIfInBounds_toArray, List.set_cons_zero, List.set_cons_succ, Nat.reduceAdd, d0] at hK ⊢
     go_simp
     exact hK.out _ _ (Kp.refl _) rfl
    case sf2 =>
     intro x u hg hd K hK
     have d1 : (x 1) = .pointer (some ⟨rp, 0, none⟩) := hd.1
     clear hd
     refine ⟨?_⟩
     simp only [putsFrom, Act.put, List.setIfInBounds_toArray, List.set_cons_zero, List.set_cons_succ, Nat.reduceAdd, d1] at hK ⊢
     go_simp
     exact hK.out _ _ (Kp.refl _) rfl
    case sf3 =>
     intro x u hg hd K hK
     have d2 : (x 2) = .pointer (some ⟨rp, 1, none⟩) := hd.1
     clear hd
     have q0 := cell_kp hg lt q1
     refine ⟨?_⟩
     simp only [putsFrom, Act.put, List.setIfInBounds_toArray, List.set_cons_zero, List.set_cons_succ, Nat.reduceAdd, d2] at hK ⊢
     go_simp
     exact hK.out _ _ (Kp.refl _) rfl
    case sf4 =>
     intro x u hg hd K hK
     clear hd
     refine ⟨?_⟩
     simp only [putsFrom, Act.put, List.setIfInBounds_toArray, List.set_cons_zero, List.set_cons_succ, Nat.reduceAdd] at hK ⊢
     go_simp
     exact hK.out _ _ (Kp.refl _) rfl
    case sf5 =>
     intro x u hg hd K hK
     have d4 : (x 4) = .pointer (some ⟨rp, 0, none⟩) := hd.1
     clear hd
     refine ⟨?_⟩
     simp only [putsFrom, Act.put, List.setIfInBounds_toArray, List.set_cons_zero, List.set_cons_succ, Nat.reduceAdd, d4] at hK ⊢
     go_simp
     exact hK.out _ _ (Kp.refl _) rfl
    case sf6 =>
     intro x u hg hd K hK
     have d5 : (x 5) = .pointer (some ⟨rp, 0, none⟩) := hd.1
     clear hd
     refine ⟨?_⟩
     simp only [putsFrom, Act.put, List.setIfInBounds_toArray, List.set_cons_zero, List.set_cons_succ, Nat.reduceAdd, d5] at hK ⊢
     go_simp
     exact hK.out _ _ (Kp.refl _) rfl
    case sf7 =>
     intro x u hg hd K hK
     have d6 : (x 6) = .pointer (some ⟨rp, 0, none⟩) := hd.1
     clear hd
     have q0 := cell_kp hg lt q0
     refine ⟨?_⟩
     simp only [putsFrom, Act.put, List.setIfInBounds_toArray, List.set_cons_zero, List.set_cons_succ, Nat.reduceAdd, d6] at hK ⊢
     go_simp
     exact hK.out _ _ (Kp.refl _) rfl
    case sf8 =>
     intro x u hg hd K hK
     have d7 : (x 7) = .slice AL NL cL := hd.1
     clear hd
     refine ⟨?_⟩
     simp only [putsFrom, Act.put, List.setIfInBounds_toArray, List.set_cons_zero, List.set_cons_succ, Nat.reduceAdd, d7] at hK ⊢
     go_simp
     exact hK.out _ _ (Kp.refl _) rfl
    case sf9 =>
     intro x u hg hd K hK
     have d3 : (x 3) = .int .i64 (n : Int) := hd.1
     have d8 : (x 8) = .int .i64 (NL : Int) := hd.2.1
     clear hd
     refine ⟨?_⟩
     simp only [putsFrom, Act.put, List.setIfInBounds_toArray, List.set_cons_zero, List.set_cons_succ, Nat.reduceAdd, d3, d8] at hK ⊢
     go_simp
     exact hK.out _ _ (Kp.refl _) rfl
    case sf10 =>
     intro x u hg hd K hK
     have d9 : (x 9) = .bool true := hd.1
     clear hd
     refine ⟨?_⟩
     simp only [putsFrom, Act.put, List.setIfInBounds_toArray, List.set_cons_zero, List.set_cons_succ, Nat.reduceAdd, d9] at hK ⊢
     go_simp
     exact hK.out _ _ (Kp.refl _) rfl
    case sf11 =>
     intro x u hg hd K hK
     have d10 : (x 10) = .bool true := hd.1
     clear hd
     refine ⟨?_⟩
     simp only [putsFrom, Act.put, List.setIfInBounds_toArray, List.set_cons_zero, List.set_cons_succ, Nat.reduceAdd, d10] at hK ⊢
     go_simp
     exact hK.out _ _ (Kp.refl _) rfl
    case sf12 =>
     intro x u hg hd K hK
     have d10 : (x 10) = .bool true := hd.1
     have d11 : (x 11) = .pointer (some ⟨rp, 0, none⟩) := hd.2.1
     clear hd
     refine ⟨?_⟩
     simp only [putsFrom, Act.put, List.setIfInBounds_toArray, List.set_cons_zero, List.set_cons_succ, Nat.reduceAdd, d10, d11] at hK ⊢
     go_simp
     go_at_call 16
     have hc := (kind_any u rp (HE.out.kp hg))
     refine hc.mono ?_
     clear hc
     rintro e u' ⟨rfl, hk9⟩
     dsimp only
     exact hK.out _ _ hk9 (by rw [cmm]; rfl)
    case sf13 =>
     intro x u hg hd K hK
     have d10 : (x 10) = .bool true := hd.1
     have d12 : (x 12) = .int .i64 mm := hd.2.1
     clear hd
     refine ⟨?_⟩
     simp only [putsFrom, Act.put, List.setIfInBounds_toArray, List.set_cons_zero, List.set_cons_succ, Nat.reduceAdd, d10, d12] at hK ⊢
     go_simp
     exact hK.out _ _ (Kp.refl _) rfl
    case sf14 =>
     intro x u hg hd K hK
     have d10 : (x 10) = .bool true := hd.1
     have d13 : (x 13) = .bool true := hd.2.1
     clear hd
     refine ⟨?_⟩
     simp only [putsFrom, Act.put, List.setIfInBounds_toArray, List.set_cons_zero, List.set_cons_succ, Nat.reduceAdd, d10, d13] at hK ⊢
     go_simp
     exact hK.out _ _ (Kp.refl _) rfl
    intro x u hg he
    have d0 : (x 0) = .pointer (some ⟨rp, 0, none⟩) := he.1
    have d1 : (x 1) = .pointer (some ⟨rp, 0, none⟩) := he.2.1
    have d2 : (x 2) = .pointer (some ⟨rp, 1, none⟩) := he.2.2.1
    have d3 : (x 3) = .int .i64 (n : Int) := he.2.2.2.1
    have d4 : (x 4) = .pointer (some ⟨rp, 0, none⟩) := he.2.2.2.2.1
    have d5 : (x 5) = .pointer (some ⟨rp, 0, none⟩) := he.2.2.2.2.2.1
    have d6 : (x 6) = .pointer (some ⟨rp, 0, none⟩) := he.2.2.2.2.2.2.1
    have d7 : (x 7) = .slice AL NL cL := he.2.2.2.2.2.2.2.1
    have d8 : (x 8) = .int .i64 (NL : Int) := he.2.2.2.2.2.2.2.2.1
    have d9 : (x 9) = .bool true := he.2.2.2.2.2.2.2.2.2.1
    have d10 : (x 10) = .bool true := he.2.2.2.2.2.2.2.2.2.2.1
    have d11 : (x 11) = .pointer (some ⟨rp, 0, none⟩) := he.2.2.2.2.2.2.2.2.2.2.2.1
    have d12 : (x 12) = .int .i64 mm := he.2.2.2.2.2.2.2.2.2.2.2.2.1
    have d13 : (x 13) = .bool true := he.2.2.2.2.2.2.2.2.2.2.2.2.2.1
    have d14 : (x 14) = .bool true := he.2.2.2.2.2.2.2.2.2.2.2.2.2.2.1
    clear he
    refine ⟨?_⟩
    simp only [putsFrom, Act.put, List.setIfInBounds_toArray, List.set_cons_zero, List.set_cons_succ, Nat.reduceAdd, d0, d1, d2, d3, d4, d5, d6, d7, d8, d9, d10, d11, d12, d13, d14]
    clear d0 d1 d2 d3 d4 d5 d6 d7 d8 d9 d10 d11 d12 d13 d14
    have HS := hid (HS.out.kp hg)
    clear hg lt q0 q1 hlen
    go_wp2_with (go_at_call 20; go_must (refine (fail_any _ _).mono ?_); rintro e wn ⟨rfl, hk⟩; unfold stopP; have HB := hid (HS.out.belowK hk); clear hk)
    rw [← HT.out]
    exact ⟨rfl, rfl, HB.out⟩
end Go.Proofs.Ytcjgagmcnmmfoaa.Pa
namespace Go.Proofs.Ytcjgagmcnmmfoaa.Pa
open Go.RowKit

def opens : List Bs := [[40], [91], [123]]
def shuts : List Bs := [[41], [93], [125]]
def nestT (n : Nat) (t : Tk) : Nat := if t.1 = 4 then (if opens.contains t.2.data.toList then n + 1 else if shuts.contains t.2.data.toList then n - 1 else n) else n
def deepM : Nat → List Tk → Bool
 | _, [] => false
 | n, t :: r => if 40 < nestT n t then true else deepM (nestT n t) r
theorem deep_any (w : World) (v : Value) (L : List TokenM) (h : RdL CeToken 4 w v L) (hL : L.length ≤ 2000) : Calls Try.prog 8 #[v] w fun e w' => e = .returned (.bool (deepM 0 (L.map tkOf))) ∧ Kp w w' := by
 have H := hid h
 obtain ⟨A, c, rfl, _⟩ := h.form
 clear h
 generalize hR : deepM 0 (L.map tkOf) = R
 have HR := hid hR
 clear hR
 go_enter Try.func8, Try.ntmps8
 go_wp2_with fail
 go_loopw [3, 5, 8, 17, 23] (fun nv _ i _ _ wr => ∃ k m : Nat, k ≤ L.length ∧ i = .int .i64 (k : Int) ∧ nv = .int .i64 (m : Int) ∧ m ≤ 40 ∧ deepM m ((L.drop k).map tkOf) = R ∧ Kp w wr) (fun _ _ i _ _ _ => L.length - (intOf i).toNat)
 case atStart => exact ⟨0, 0, by omega, rfl, rfl, by omega, HR.out, Kp.refl _⟩
 case round =>
  obtain ⟨k, m, hk, rfl, rfl, hm, hr, hkr⟩ := hrel
  have HKR := hid hkr
  clear HR
  by_cases hlt : k < L.length
  ·have i1 : (k : Int) < (L.length : Int) := by omega
   obtain ⟨t, ht⟩ : ∃ t, L[k]? = some t := ⟨_, List.getElem?_eq_getElem hlt⟩
   obtain ⟨b, off, rfl, hbl, e0, e1, e2, e3, _⟩ := at_token (H.out.kp CeToken.kp hkr) ht
   have k1 : IntKind.i64.wrap ((k : Int) + 1) = (k : Int) + 1 := by rw [IntKind.wrap_i64]; omega
   have k2 : IntKind.i64.wrap ((m : Int) + 1) = (m : Int) + 1 := by rw [IntKind.wrap_i64]; omega
   have k3 : IntKind.i64.wrap ((m : Int) - 1) = (m : Int) - 1 := by rw [IntKind.wrap_i64]; omega
   rw [List.drop_eq_getElem_cons hlt, List.map_cons, deepM] at hr
   have hte : L[k] = t := by rw [List.getElem?_eq_getElem hlt] at ht; exact Option.some.inj ht
   rw [hte] at hr
   have HKA := hid (hkr.alloc (.cells #[.int .i64 t.kind, .string t.text, .int .i64 t.line, .int .i64 t.col] 57))
   clear ht hte hkr
   obtain ⟨tk, tx, tl, tc⟩ := t
   unfold nestT tkOf at hr
   simp only at hr e0 e1 e2 e3 HKA
   by_cases h4 : tk = 4
   ·subst h4
    rw [if_pos rfl] at hr
    by_cases ho : tx.data.toList ∈ opens
    ·rw [if_pos (List.contains_iff_mem.2 ho)] at hr
     simp only [opens, List.mem_cons, List.not_mem_nil, or_false] at ho
     have htx : tx = sB tx.data.toList := by unfold sB; cases tx; rfl
     rcases ho with hb | hb | hb
     all_goals
      rw [hb] at htx
      subst htx
      unfold sB at e1 HKA
      clear hb
      by_cases hm40 : 40 < m + 1
      ·rw [if_pos hm40] at hr
       have i3 : (40 : Int) < (m : Int) + 1 := by omega
       have HR2 := hid hr
       clear hr
       go_wp2
       go_ret
       exact ⟨by rw [← HR2.out]; rfl, HKA.out⟩
      ·rw [if_neg hm40] at hr
       have i3 : ¬ (40 : Int) < (m : Int) + 1 := by omega
       have HR2 := hid hr
       clear hr
       go_wp2
       exact ⟨⟨k + 1, m + 1, hlt, by congr 1, by congr 1, by omega, HR2.out, HKA.out⟩, by simp only [intOf, Int.toNat_natCast]; omega⟩
    ·by_cases hs : tx.data.toList ∈ shuts
     ·rw [if_neg (show ¬ opens.contains tx.data.toList = true by rw [List.contains_iff_mem]; exact ho), if_pos (List.contains_iff_mem.2 hs)] at hr
      simp only [shuts, List.mem_cons, List.not_mem_nil, or_false] at hs
      have htx : tx = sB tx.data.toList := by unfold sB; cases tx; rfl
      rcases hs with hb | hb | hb
      all_goals
       rw [hb] at htx
       subst htx
       unfold sB at e1 HKA
       clear hb ho
       rw [if_neg (show ¬ 40 < m - 1 by omega)] at hr
       have HR2 := hid hr
       clear hr
       have i3 : max ((m : Int) - 1) 0 = ((m - 1 : Nat) : Int) := by omega
       have i4 : ¬ (40 : Int) < ((m - 1 : Nat) : Int) := by omega
       generalize m - 1 = m2 at i3 i4 HR2
       go_wp2
       exact ⟨⟨k + 1, m2, hlt, by congr 1, by congr 1, by omega, HR2.out, HKA.out⟩, by simp only [intOf, Int.toNat_natCast]; omega⟩
     ·rw [if_neg (show ¬ opens.contains tx.data.toList = true by rw [List.contains_iff_mem]; exact ho), if_neg (show ¬ shuts.contains tx.data.toList = true by rw [List.contains_iff_mem]; exact hs), if_neg (show ¬ 40 < m by omega)] at hr
      have HR2 := hid hr
      clear hr
      have z0 := str_ne (S := tx) (b := [40]) (fun e => ho (by rw [e]; decide))
      have z1 := str_ne (S := tx) (b := [91]) (fun e => ho (by rw [e]; decide))
      have z2 := str_ne (S := tx) (b := [123]) (fun e => ho (by rw [e]; decide))
      have z3 := str_ne (S := tx) (b := [41]) (fun e => hs (by rw [e]; decide))
      have z4 := str_ne (S := tx) (b := [93]) (fun e => hs (by rw [e]; decide))
      have z5 := str_ne (S := tx) (b := [125]) (fun e => hs (by rw [e]; decide))
      have i3 : ¬ (40 : Int) < (m : Int) := by omega
      clear ho hs
      go_wp2
      exact ⟨⟨k + 1, m, hlt, by congr 1, rfl, hm, HR2.out, HKA.out⟩, by simp only [intOf, Int.toNat_natCast]; omega⟩
   ·have t1 : (tk != 4) = true := by rw [bne_iff_ne]; exact h4
    have t2 : (tk == 4) = false := by rw [beq_eq_false_iff_ne]; exact h4
    rw [if_neg h4, if_neg (by omega)] at hr
    have HR2 := hid hr
    clear hr
    go_wp2
    exact ⟨⟨k + 1, m, hlt, by congr 1, rfl, hm, HR2.out, HKA.out⟩, by simp only [intOf, Int.toNat_natCast]; omega⟩
  ·have i1 : ¬ (k : Int) < (L.length : Int) := by omega
   rw [List.drop_eq_nil_of_le (by omega)] at hr
   have HR2 := hid hr
   clear hr
   go_wp2
   go_ret
   exact ⟨by rw [← HR2.out]; rfl, HKR.out⟩
end Go.Proofs.Ytcjgagmcnmmfoaa.Pa
namespace Go.Proofs.Ytcjgagmcnmmfoaa.Pa
open Go.RowKit

structure ResA (w : World) (b0 b1 : Nat) (v : Value) (s : Array Value) : Prop where
 a : w.heap[b0]? = some (.cells #[v] 22 (0, 0))
 b : w.heap[b1]? = some (.cells s 25 (0, 0))
theorem ResA.kp {w w' : World} {b0 b1 : Nat} {v : Value} {s : Array Value} (h : ResA w b0 b1 v s) (hk : Kp w w') : ResA w' b0 b1 v s := ⟨(hk.block b0 (blk_lt h.a)).trans h.a, (hk.block b1 (blk_lt h.b)).trans h.b⟩
theorem ResA.below {B : Nat} {w w' : World} {b0 b1 : Nat} {v : Value} {s : Array Value} (h : ResA w b0 b1 v s) (hk : Below B w w') (h0 : b0 < B) (h1 : b1 < B) : ResA w' b0 b1 v s := ⟨(hk.block b0 h0).trans h.a, (hk.block b1 h1).trans h.b⟩
theorem ResA.set0 {w : World} {b0 b1 : Nat} {v : Value} {s : Array Value} (h : ResA w b0 b1 v s) (hn : b0 ≠ b1) (v2 : Value) : ResA (w.setCell ⟨b0, 0, none⟩ v2) b0 b1 v2 s := ⟨blk_set h.a _, (blk_far (p := ⟨b0, 0, none⟩) (fun e => hn e.symm) _).trans h.b⟩
theorem ResA.set1 {w : World} {b0 b1 : Nat} {v x y z : Value} (h : ResA w b0 b1 v #[x, y, z]) (hn : b0 ≠ b1) (x2 y2 z2 : Value) : ResA (((w.setCell ⟨b1, 0, none⟩ x2).setCell ⟨b1, 1, none⟩ y2).setCell ⟨b1, 2, none⟩ z2) b0 b1 v #[x2, y2, z2] :=
 ⟨(blk_far (p := ⟨b1, 2, none⟩) hn _).trans ((blk_far (p := ⟨b1, 1, none⟩) hn _).trans ((blk_far (p := ⟨b1, 0, none⟩) hn _).trans h.a)), blk_set (blk_set (blk_set h.b _) _) _⟩
@[go_sem] theorem field_stop (x0 : Value) (w : World) : Sem.run Try.prog (Instr.field 44 (.agg #[x0]) 0) w = .ok x0 w := by kernel_rfl
theorem rep8 : Array.replicate 8 undef = #[undef, undef, undef, undef, undef, undef, undef, undef] := rfl
theorem catch_stopP (w : World) (B b0 b1 : Nat) (v0 x0 y0 z0 : Value) (hr : ResA w b0 b1 v0 #[x0, y0, z0]) (hn : b0 ≠ b1) (h0 : B ≤ b0) (h1 : B ≤ b1) (older : List PanicEntry) :
  CallsD Try.prog 9 #[.pointer (some ⟨b0, 0, none⟩), .pointer (some ⟨b1, 0, none⟩)] (.panicking ({ v := .iface 44 (.agg #[.int .i64 6]), recovered := false } :: older)) w fun e u' w' =>
   e = .returned (.tuple #[]) ∧ u' = .panicking ({ v := .iface 44 (.agg #[.int .i64 6]), recovered := true } :: older) ∧ ResA w' b0 b1 (.slice none 0 0) #[.int .i64 6, .int .i64 0, .int .i64 0] ∧ Below B w w' := by
 refine callsD_of_wpS Try.func9 rfl fun c₀ cs hu => ?_
 apply wpS_seq
 apply wpS_region
 simp [wpOpsS, go_sem, recoverD, hu, Try.ntmps9, Exit.thenS, rep8]
 apply wpS_seq
 apply wpS_region
 simp [wpOpsS, go_sem, Exit.thenS]
 refine wpS_cond (t := true) (by simp [Act.eval]) ?_
 simp only [if_true]
 refine wpS_of_wp ?_
 have HR := hid hr
 have HB0 := hid (blk_lt hr.a); have HB1 := hid (blk_lt hr.b)
 clear hr
 refine wp_region_phase [4, 5] [(0, 1), (0, 1), (0, 1), (0, 1), (0, 0), (0, 0)] (fun _ _ => True) [[], [0], [1], [2], [], [3, 4]]
  (fun (p : Nat) (x : Nat → Value) (u : World) => match p with | 0 => Kp w u | 1 => ResA u b0 b1 (.slice none 0 0) #[x0, y0, z0] ∧ Below B w u | _ => ResA u b0 b1 (.slice none 0 0) #[.int .i64 6, .int .i64 0, .int .i64 0] ∧ Below B w u)
  [fun (y : Value) (u : World) => y = (.iface 44 (.agg #[.int .i64 6]) : Value),
  fun (y : Value) (u : World) => y = (.agg #[.int .i64 6] : Value),
  fun (y : Value) (u : World) => y = (.int .i64 6 : Value),
  fun (y : Value) (u : World) => y = (.agg #[.int .i64 6, .int .i64 0, .int .i64 0] : Value),
  fun (y : Value) (u : World) => True,
  fun (y : Value) (u : World) => True]
  (by kernel_rfl) (by kernel_rfl) (by kernel_rfl) (by kernel_rfl) (by kernel_rfl) (by kernel_rfl) (fun _ _ _ => trivial) ((Kp.refl w).drew) ?hKg ?hXg ⟨fun _ _ _ _ h => h, fun _ _ _ _ h => h, fun _ _ _ _ h => h, fun _ _ _ _ h => h, fun _ _ _ _ _ => trivial, fun _ _ _ _ _ => trivial, trivial⟩ ⟨?sg0, ?sg1, ?sg2, ?sg3, ?sg4, ?sg5, trivial⟩ ?hEg
 case hKg =>
  intro p x w w' hk h
  rcases p with _ | _ | p
  ·exact h.trans hk
  ·exact ⟨h.1.kp hk, Below.trans h.2 (Below.mono hk (Nat.le_trans (Nat.le_trans h0 (Nat.le_of_lt HB0.out)) h.2.size))⟩
  ·exact ⟨h.1.kp hk, Below.trans h.2 (Below.mono hk (Nat.le_trans (Nat.le_trans h0 (Nat.le_of_lt HB0.out)) h.2.size))⟩
 case hXg =>
  intro p x i v w hi h
  have e0 : upd x i v 4 = x 4 := if_neg (fun hh => hi (by rw [← hh]; decide))
  have e1 : upd x i v 5 = x 5 := if_neg (fun hh => hi (by rw [← hh]; decide))
  rcases p with _ | _ | p
  ·first | exact h | (simp only [e0, e1]; exact h)
  ·first | exact h | (simp only [e0, e1]; exact h)
  ·first | exact h | (simp only [e0, e1]; exact h)
 case sg0 =>
  refine OpStepQ.off 0 1 (by kernel_rfl) (by kernel_rfl) ?_
  intro x u p hp hg hd K hK
  clear hd
  refine ⟨?_⟩
  simp only [putsFrom, Act.put, List.setIfInBounds_toArray, List.set_cons_zero, List.set_cons_succ, Nat.reduceAdd] at hK ⊢
  go_simp
  exact hK.out _ _ (Kp.refl _) rfl
 case sg1 =>
  refine OpStepQ.off 0 1 (by kernel_rfl) (by kernel_rfl) ?_
  intro x u p hp hg hd K hK
  have d0 : (x 0) = .iface 44 (.agg #[.int .i64 6]) := hd.1
  clear hd
  refine ⟨?_⟩
  simp only [putsFrom, Act.put, List.setIfInBounds_toArray, List.set_cons_zero, List.set_cons_succ, Nat.reduceAdd, d0] at hK ⊢
  go_simp
  exact hK.out _ _ (Kp.refl _) rfl
 case sg2 =>
  refine OpStepQ.off 0 1 (by kernel_rfl) (by kernel_rfl) ?_
  intro x u p hp hg hd K hK
  have d1 : (x 1) = .agg #[.int .i64 6] := hd.1
  clear hd
  refine ⟨?_⟩
  simp only [putsFrom, Act.put, List.setIfInBounds_toArray, List.set_cons_zero, List.set_cons_succ, Nat.reduceAdd, d1] at hK ⊢
  go_simp
  exact hK.out _ _ (Kp.refl _) rfl
 case sg3 =>
  refine OpStepQ.off 0 1 (by kernel_rfl) (by kernel_rfl) ?_
  intro x u p hp hg hd K hK
  have d2 : (x 2) = .int .i64 6 := hd.1
  clear hd
  refine ⟨?_⟩
  simp only [putsFrom, Act.put, List.setIfInBounds_toArray, List.set_cons_zero, List.set_cons_succ, Nat.reduceAdd, d2] at hK ⊢
  go_simp
  exact hK.out _ _ (Kp.refl _) rfl
 case sg4 =>
  refine OpStepQ.on 0 (by kernel_rfl) (by kernel_rfl) ?_
  intro x u hg hd K hK
  change Kp w u at hg
  clear hd
  have hru := HR.out.kp hg
  have HRU := hid hru
  have HGG := hid hg
  have q0 : u.cell? ⟨b0, 0, none⟩ = some v0 := blk_cell hru.a rfl
  have qf : u.frozen? ⟨b0, 0, none⟩ = false := blk_free hru.a
  clear hru
  refine ⟨?_⟩
  simp only [putsFrom, Act.put, List.setIfInBounds_toArray, List.set_cons_zero, List.set_cons_succ, Nat.reduceAdd] at hK ⊢
  go_simp
  exact hK.out undef _ trivial ⟨HRU.out.set0 hn _, (Below.mono HGG.out (Nat.le_trans h0 (Nat.le_of_lt HB0.out))).setCell h0 _⟩ trivial
 case sg5 =>
  refine OpStepQ.on 1 (by kernel_rfl) (by kernel_rfl) ?_
  intro x u hg hd K hK
  change ResA u b0 b1 (.slice none 0 0) #[x0, y0, z0] ∧ Below B w u at hg
  have d3 : (x 3) = .agg #[.int .i64 6, .int .i64 0, .int .i64 0] := hd.1
  clear hd
  have hru := hg.1
  have HRU := hid hru
  have HGG := hid hg.2
  have q0 : u.cell? ⟨b1, 0, none⟩ = some x0 := blk_cell hru.b rfl
  have q1 : u.cell? ⟨b1, 1, none⟩ = some y0 := blk_cell hru.b rfl
  have q2 : u.cell? ⟨b1, 2, none⟩ = some z0 := blk_cell hru.b rfl
  have qf : u.frozen? ⟨b1, 0, none⟩ = false := blk_free hru.b
  have qf1 : u.frozen? ⟨b1, 1, none⟩ = false := blk_free hru.b
  have qf2 : u.frozen? ⟨b1, 2, none⟩ = false := blk_free hru.b
  clear hru
  refine ⟨?_⟩
  simp only [putsFrom, Act.put, List.setIfInBounds_toArray, List.set_cons_zero, List.set_cons_succ, Nat.reduceAdd, d3] at hK ⊢
  go_simp
  exact hK.out undef _ trivial ⟨HRU.out.set1 hn _ _ _, ((HGG.out.setCell h1 _).setCell h1 _).setCell h1 _⟩ trivial
 intro x u hg he
 have d0 : (x 0) = .iface 44 (.agg #[.int .i64 6]) := he.1
 have d1 : (x 1) = .agg #[.int .i64 6] := he.2.1
 have d2 : (x 2) = .int .i64 6 := he.2.2.1
 have d3 : (x 3) = .agg #[.int .i64 6, .int .i64 0, .int .i64 0] := he.2.2.2.1
 clear he
 change ResA u b0 b1 (.slice none 0 0) #[.int .i64 6, .int .i64 0, .int .i64 0] ∧ Below B w u at hg
 refine ⟨?_⟩
 simp only [putsFrom, Act.put, List.setIfInBounds_toArray, List.set_cons_zero, List.set_cons_succ, Nat.reduceAdd, d0, d1, d2, d3]
 clear d0 d1 d2 d3
 obtain ⟨hru, hbw⟩ := hg
 refine ⟨rfl, _, rfl, _, by simp [results, Try.results9], rfl, ?_, hru, hbw⟩
 rfl
theorem catch_idleP (w : World) (p0 p1 : Addr) :
  CallsD Try.prog 9 #[.pointer (some p0), .pointer (some p1)] .returning w fun e u' w' => e = .returned (.tuple #[]) ∧ u' = .returning ∧ w' = w := by
 refine callsD_of_wpS Try.func9 rfl fun c₀ cs hu => ?_
 apply wpS_seq
 apply wpS_region
 simp [wpOpsS, go_sem, recoverD, hu, Try.ntmps9, Exit.thenS, rep8]
 apply wpS_seq
 apply wpS_region
 simp [wpOpsS, go_sem, Exit.thenS]
 refine wpS_cond (t := false) (by simp [Act.eval]) ?_
 simp only [Bool.false_eq_true, if_false]
 refine wpS_of_wp (wp_skip ?_)
 cases c₀
 simp_all [bodyPostS, results, Try.results9]
noncomputable def parseM (l : List Tk) : Except Int T := if deepM 0 l then .error 5 else match treeM l with | some t => .ok t | none => .error 6
def ParO (w : World) (base : Nat) (v : Value) (t : T) : Prop := ∃ ps : List GNode, OwnL (CeG base) 5 37 w base v ps ∧ ps.map Prod.fst = flat 0 t ∧ (gBlks ps).Nodup ∧ ps.length ≤ 4001
def ParP (w : World) (S : ByteArray) (e : Ending) (w' : World) : Prop :=
 ((∃ er : Err, ToksM S (.error er) ∧ 1 ≤ er.1 ∧ er.1 ≤ 20 ∧ e = .returned (.tuple #[.slice none 0 0, .agg #[.int .i64 er.1, .int .i64 er.2.1, .int .i64 er.2.2]])) ∨
 (∃ lt, ToksM S (.ok lt) ∧ ((∃ c, parseM (lt.map tkOf) = .error c ∧ e = .returned (.tuple #[.slice none 0 0, .agg #[.int .i64 c, .int .i64 0, .int .i64 0]])) ∨
  (∃ t v, parseM (lt.map tkOf) = .ok t ∧ e = .returned (.tuple #[v, .agg #[.int .i64 0, .int .i64 0, .int .i64 0]]) ∧ ParO w' w.heap.size v t)))) ∧ Kp w w'
theorem parse_err (w : World) (S : ByteArray) (hs : S.size ≤ 140737488351232) (er : Err) (hr : ToksM S (.error er)) : Calls Try.prog 4 #[.string S] w (ParP w S) := by
 have hmf : ∀ (fn : Fn) (first cap : Array Value) (w : World), (Instr.makeFunc fn first cap).run Try.prog w = .ok (.func fn first cap) w := fun _ _ _ _ => rfl
 have HRA := hid (show ResA ((w.alloc (.cells #[.slice none 0 0] 22)).alloc (.cells #[.int .i64 0, .int .i64 0, .int .i64 0] 25)) w.heap.size (w.heap.size + 1) (.slice none 0 0) #[.int .i64 0, .int .i64 0, .int .i64 0] from ⟨blk_old (blk_new _ _) _, blk_new2 _ _ _⟩)
 have HKA := hid (show Kp w ((w.alloc (.cells #[.slice none 0 0] 22)).alloc (.cells #[.int .i64 0, .int .i64 0, .int .i64 0] 25)) from ((Kp.refl w).alloc _).alloc _)
 have HR := hid hr
 clear hr
 go_enter_defers Try.func4, Try.ntmps4
 go_upto_region 3 with (go_at_call 7; go_must (refine (toks_err hs HR.out _).mono ?_); rintro e w1 ⟨⟨z1, z2, rfl⟩, hk1⟩; have z3 : (er.1 != 0) = true := (by rw [bne_iff_ne]; omega); have z4 : (er.1 == 0) = false := (by rw [beq_eq_false_iff_ne]; omega); have HK1 := hid (HKA.out.trans hk1); have HZ := hid (And.intro z1 z2); have hra := HRA.out.kp hk1; have HRB := hid hra; have r1 : w1.cell? ⟨w.heap.size + 1, 0, none⟩ = some (.int .i64 0) := blk_cell hra.b rfl; have r2 : w1.cell? ⟨w.heap.size + 1, 1, none⟩ = some (.int .i64 0) := blk_cell hra.b rfl; have r3 : w1.cell? ⟨w.heap.size + 1, 2, none⟩ = some (.int .i64 0) := blk_cell hra.b rfl; have f1 : w1.frozen? ⟨w.heap.size + 1, 0, none⟩ = false := blk_free hra.b; have f2 : w1.frozen? ⟨w.heap.size + 1, 1, none⟩ = false := blk_free hra.b; have f3 : w1.frozen? ⟨w.heap.size + 1, 2, none⟩ = false := blk_free hra.b; clear hra hk1 z1 z2)
 have HS1 := hid (HRB.out.set1 (by omega) (.int .i64 er.1) (.int .i64 er.2.1) (.int .i64 er.2.2))
 have HKS := hid (((HK1.out.setCell (p := ⟨w.heap.size + 1, 0, none⟩) (by show w.heap.size ≤ w.heap.size + 1; omega) (.int .i64 er.1)).setCell (p := ⟨w.heap.size + 1, 1, none⟩) (by show w.heap.size ≤ w.heap.size + 1; omega) (.int .i64 er.2.1)).setCell (p := ⟨w.heap.size + 1, 2, none⟩) (by show w.heap.size ≤ w.heap.size + 1; omega) (.int .i64 er.2.2))
 obtain ⟨b0, hb0⟩ : ∃ b0, w.heap.size = b0 := ⟨_, rfl⟩
 obtain ⟨b1, hb1⟩ : ∃ b1, w.heap.size + 1 = b1 := ⟨_, rfl⟩
 have HN := hid (show w.heap.size = b0 ∧ b0 ≠ b1 ∧ b0 ≤ b1 by omega)
 rw [hb1] at HS1 HKS ⊢
 rw [hb0] at HS1 ⊢
 generalize ((w1.setCell ⟨b1, 0, none⟩ (.int .i64 er.1)).setCell ⟨b1, 1, none⟩ (.int .i64 er.2.1)).setCell ⟨b1, 2, none⟩ (.int .i64 er.2.2) = W2 at HS1 HKS ⊢
 clear hb0 hb1 r1 r2 r3 f1 f2 f3 HRB HRA HKA HK1
 have HL0 := hid (blk_lt HS1.out.a); have HL1 := hid (blk_lt HS1.out.b)
 refine wp_region_phase [1, 2] [(0, 1), (0, 0), (0, 0)] (fun _ _ => True) [[], [], [0, 1]]
  (fun (p : Nat) (x : Nat → Value) (u : World) => match p with | 0 => Kp W2 u | 1 => ResA u b0 b1 (.slice none 0 0) #[.int .i64 er.1, .int .i64 er.2.1, .int .i64 er.2.2] ∧ Below b0 W2 u | _ => ResA u b0 b1 (.slice none 0 0) #[.int .i64 er.1, .int .i64 er.2.1, .int .i64 er.2.2] ∧ Below b0 W2 u)
  [fun (y : Value) (u : World) => y = (.agg #[.int .i64 er.1, .int .i64 er.2.1, .int .i64 er.2.2] : Value),
  fun (y : Value) (u : World) => True,
  fun (y : Value) (u : World) => True]
  (by kernel_rfl) (by kernel_rfl) (by kernel_rfl) (by kernel_rfl) (by kernel_rfl) (by kernel_rfl) (fun _ _ _ => trivial) ((Kp.refl W2).drew) ?hKh ?hXh ⟨fun _ _ _ _ h => h, fun _ _ _ _ _ => trivial, fun _ _ _ _ _ => trivial, trivial⟩ ⟨?sh0, ?sh1, ?sh2, trivial⟩ ?hEh
 case hKh =>
  intro p x w w' hk h
  rcases p with _ | _ | p
  ·exact h.trans hk
  ·exact ⟨h.1.kp hk, Below.trans h.2 (Below.mono hk (Nat.le_trans (Nat.le_of_lt HL0.out) h.2.size))⟩
  ·exact ⟨h.1.kp hk, Below.trans h.2 (Below.mono hk (Nat.le_trans (Nat.le_of_lt HL0.out) h.2.size))⟩
 case hXh =>
  intro p x i v w hi h
  have e0 : upd x i v 1 = x 1 := if_neg (fun hh => hi (by rw [← hh]; decide))
  have e1 : upd x i v 2 = x 2 := if_neg (fun hh => hi (by rw [← hh]; decide))
  rcases p with _ | _ | p
  ·first | exact h | (simp only [e0, e1]; exact h)
  ·first | exact h | (simp only [e0, e1]; exact h)
  ·first | exact h | (simp only [e0, e1]; exact h)
 case sh0 =>
  refine OpStepQ.off 0 1 (by kernel_rfl) (by kernel_rfl) ?_
  intro x u p hp hg hd K hK
  clear hd
  have hru : ResA u b0 b1 (.slice none 0 0) #[.int .i64 er.1, .int .i64 er.2.1, .int .i64 er.2.2] := by
   rcases p with _ | _ | p
   ·exact HS1.out.kp hg
   ·exact hg.1
   ·exact hg.1
  have q0 : u.cell? ⟨b1, 0, none⟩ = some (.int .i64 er.1) := blk_cell hru.b rfl
  have q1 : u.cell? ⟨b1, 1, none⟩ = some (.int .i64 er.2.1) := blk_cell hru.b rfl
  have q2 : u.cell? ⟨b1, 2, none⟩ = some (.int .i64 er.2.2) := blk_cell hru.b rfl
  clear hru
  refine ⟨?_⟩
  simp only [putsFrom, Act.put, List.setIfInBounds_toArray, List.set_cons_zero, List.set_cons_succ, Nat.reduceAdd] at hK ⊢
  go_simp
  exact hK.out _ _ (Kp.refl _) rfl
 case sh1 =>
  refine OpStepQ.on 0 (by kernel_rfl) (by kernel_rfl) ?_
  intro x u hg hd K hK
  change Kp W2 u at hg
  clear hd
  have hru := HS1.out.kp hg
  have HRU := hid hru
  have HGG := hid hg
  have q0 : u.cell? ⟨b0, 0, none⟩ = some (.slice none 0 0) := blk_cell hru.a rfl
  have qf : u.frozen? ⟨b0, 0, none⟩ = false := blk_free hru.a
  clear hru
  refine ⟨?_⟩
  simp only [putsFrom, Act.put, List.setIfInBounds_toArray, List.set_cons_zero, List.set_cons_succ, Nat.reduceAdd] at hK ⊢
  go_simp
  exact hK.out undef _ trivial ⟨HRU.out.set0 HN.out.2.1 _, (Below.mono HGG.out (Nat.le_of_lt HL0.out)).setCell (Nat.le_refl _) _⟩ trivial
 case sh2 =>
  refine OpStepQ.on 1 (by kernel_rfl) (by kernel_rfl) ?_
  intro x u hg hd K hK
  change ResA u b0 b1 (.slice none 0 0) #[.int .i64 er.1, .int .i64 er.2.1, .int .i64 er.2.2] ∧ Below b0 W2 u at hg
  have d0 : (x 0) = .agg #[.int .i64 er.1, .int .i64 er.2.1, .int .i64 er.2.2] := hd.1
  clear hd
  have hru := hg.1
  have HRU := hid hru
  have HGG := hid hg.2
  have q0 : u.cell? ⟨b1, 0, none⟩ = some (.int .i64 er.1) := blk_cell hru.b rfl
  have q1 : u.cell? ⟨b1, 1, none⟩ = some (.int .i64 er.2.1) := blk_cell hru.b rfl
  have q2 : u.cell? ⟨b1, 2, none⟩ = some (.int .i64 er.2.2) := blk_cell hru.b rfl
  have qf : u.frozen? ⟨b1, 0, none⟩ = false := blk_free hru.b
  have qf1 : u.frozen? ⟨b1, 1, none⟩ = false := blk_free hru.b
  have qf2 : u.frozen? ⟨b1, 2, none⟩ = false := blk_free hru.b
  clear hru
  refine ⟨?_⟩
  simp only [putsFrom, Act.put, List.setIfInBounds_toArray, List.set_cons_zero, List.set_cons_succ, Nat.reduceAdd, d0] at hK ⊢
  go_simp
  exact hK.out undef _ trivial ⟨HRU.out.set1 HN.out.2.1 _ _ _, ((HGG.out.setCell HN.out.2.2 _).setCell HN.out.2.2 _).setCell HN.out.2.2 _⟩ trivial
 intro x u hg he
 have d0 : (x 0) = .agg #[.int .i64 er.1, .int .i64 er.2.1, .int .i64 er.2.2] := he.1
 clear he
 change ResA u b0 b1 (.slice none 0 0) #[.int .i64 er.1, .int .i64 er.2.1, .int .i64 er.2.2] ∧ Below b0 W2 u at hg
 refine ⟨?_⟩
 simp only [putsFrom, Act.put, List.setIfInBounds_toArray, List.set_cons_zero, List.set_cons_succ, Nat.reduceAdd, d0]
 clear d0
 obtain ⟨hru, hbw⟩ := hg
 have HBW := hid hbw
 have q0 : u.cell? ⟨b0, 0, none⟩ = some (.slice none 0 0) := blk_cell hru.a rfl
 have q1 : u.cell? ⟨b1, 0, none⟩ = some (.int .i64 er.1) := blk_cell hru.b rfl
 have q2 : u.cell? ⟨b1, 1, none⟩ = some (.int .i64 er.2.1) := blk_cell hru.b rfl
 have q3 : u.cell? ⟨b1, 2, none⟩ = some (.int .i64 er.2.2) := blk_cell hru.b rfl
 clear hru hbw
 go_wp2
 refine ⟨_, by simp [results, Try.results4, go_sem, q0, q1, q2, q3], .inl ⟨er, HR.out, HZ.out.1, HZ.out.2, rfl⟩, Below.trans HKS.out (by have h := HN.out.1; rw [h]; exact HBW.out)⟩
theorem start_at {W2 w3 : World} {v : Value} {lt : List TokenM} (h : RdL CeToken 4 W2 v lt) (hk : Kp W2 w3) (hl : lt.length ≤ 2000) : StT (w3.alloc (.cells (rdrC v 0 (.slice none 0 0)) 47)) w3.heap.size lt (lt.map tkOf) [] [] [] (0 + 1) nilV [] (w3.alloc (.cells (rdrC v 0 (.slice none 0 0)) 47)) := by
 refine StT.start ⟨v, .slice none 0 0, 0, blk_new _ _, ⟨w3, Nat.le_refl _, h.kp CeToken.kp hk, (Below.refl _ _).alloc (Nat.le_refl _) _⟩, OwnL.nil _ _ _ _ _, by simp, by simp, by simp [gBlks], by simp; omega, hl⟩ rfl
theorem parse_ok (w : World) (S : ByteArray) (lt : List TokenM) (hr : ToksM S (.ok lt)) : Calls Try.prog 4 #[.string S] w (ParP w S) := by
 have hmf : ∀ (fn : Fn) (first cap : Array Value) (w : World), (Instr.makeFunc fn first cap).run Try.prog w = .ok (.func fn first cap) w := fun _ _ _ _ => rfl
 have HRA := hid (show ResA ((w.alloc (.cells #[.slice none 0 0] 22)).alloc (.cells #[.int .i64 0, .int .i64 0, .int .i64 0] 25)) w.heap.size (w.heap.size + 1) (.slice none 0 0) #[.int .i64 0, .int .i64 0, .int .i64 0] from ⟨blk_old (blk_new _ _) _, blk_new2 _ _ _⟩)
 have HKA := hid (show Kp w ((w.alloc (.cells #[.slice none 0 0] 22)).alloc (.cells #[.int .i64 0, .int .i64 0, .int .i64 0] 25)) from ((Kp.refl w).alloc _).alloc _)
 have HR := hid hr
 have HPL := hid hr.placed
 clear hr
 go_enter_defers Try.func4, Try.ntmps4
 go_upto_region 4 with (go_at_call 7; go_must (refine (toks_ok HR.out _).mono ?_); rintro e w1 ⟨⟨v1, rfl, ho1⟩, hk1⟩; obtain ⟨A1, c1, rfl⟩ := own_form ho1.choose_spec.1; have HO1 := hid ho1; have HK1 := hid (HKA.out.trans hk1); have hra := HRA.out.kp hk1; have HRB := hid hra; have r1 : w1.cell? ⟨w.heap.size + 1, 0, none⟩ = some (.int .i64 0) := blk_cell hra.b rfl; have r2 : w1.cell? ⟨w.heap.size + 1, 1, none⟩ = some (.int .i64 0) := blk_cell hra.b rfl; have r3 : w1.cell? ⟨w.heap.size + 1, 2, none⟩ = some (.int .i64 0) := blk_cell hra.b rfl; have f1 : w1.frozen? ⟨w.heap.size + 1, 0, none⟩ = false := blk_free hra.b; have f2 : w1.frozen? ⟨w.heap.size + 1, 1, none⟩ = false := blk_free hra.b; have f3 : w1.frozen? ⟨w.heap.size + 1, 2, none⟩ = false := blk_free hra.b; clear hra hk1 ho1)
 have HS1 := hid (HRB.out.set1 (by omega) (.int .i64 0) (.int .i64 0) (.int .i64 0))
 have hks := ((HK1.out.setCell (p := ⟨w.heap.size + 1, 0, none⟩) (by show w.heap.size ≤ w.heap.size + 1; omega) (.int .i64 0)).setCell (p := ⟨w.heap.size + 1, 1, none⟩) (by show w.heap.size ≤ w.heap.size + 1; omega) (.int .i64 0)).setCell (p := ⟨w.heap.size + 1, 2, none⟩) (by show w.heap.size ≤ w.heap.size + 1; omega) (.int .i64 0)
 have HKS := hid hks
 have tk := tok_touch (tok_touch (tok_touch HO1.out (rowTouch (o := 0) HRB.out.b (.int .i64 0)) (by decide)) (rowTouch (o := 1) (blk_set HRB.out.b _) (.int .i64 0)) (by decide)) (rowTouch (o := 2) (blk_set (blk_set HRB.out.b _) _) (.int .i64 0)) (by decide)
 have HTK := hid (OwnL.rd tk)
 obtain ⟨b0, hb0⟩ : ∃ b0, w.heap.size = b0 := ⟨_, rfl⟩
 obtain ⟨b1, hb1⟩ : ∃ b1, w.heap.size + 1 = b1 := ⟨_, rfl⟩
 have HN := hid (show w.heap.size = b0 ∧ b0 ≠ b1 ∧ b0 ≤ b1 by omega)
 clear tk hks
 rw [hb1] at HS1 HKS HTK ⊢
 rw [hb0] at HS1 ⊢
 generalize ((w1.setCell ⟨b1, 0, none⟩ (.int .i64 0)).setCell ⟨b1, 1, none⟩ (.int .i64 0)).setCell ⟨b1, 2, none⟩ (.int .i64 0) = W2 at HS1 HKS HTK ⊢
 clear hb0 hb1 r1 r2 r3 f1 f2 f3 HRB HRA HKA HK1 HO1
 have HL0 := hid (blk_lt HS1.out.a); have HL1 := hid (blk_lt HS1.out.b)
 have n1 := HN.out.2.1
 have n2 : b1 ≠ b0 := fun e => n1 e.symm
 by_cases hd : deepM 0 (lt.map tkOf) = true
 ·have HPM := hid (show parseM (lt.map tkOf) = .error 5 by unfold parseM; rw [if_pos hd])
  go_upto_region 5 with (go_at_call 8; go_must (refine (deep_any _ _ lt HTK.out HPL.out.2.1).mono ?_); rintro e w3 ⟨rfl, hk3⟩; rw [hd]; have HK3 := hid hk3; have hra := HS1.out.kp hk3; have HRB := hid hra; have r0 : w3.cell? ⟨b0, 0, none⟩ = some (.slice none 0 0) := blk_cell hra.a rfl; have f0 : w3.frozen? ⟨b0, 0, none⟩ = false := blk_free hra.a; have r1 : w3.cell? ⟨b1, 0, none⟩ = some (.int .i64 0) := blk_cell hra.b rfl; have r2 : w3.cell? ⟨b1, 1, none⟩ = some (.int .i64 0) := blk_cell hra.b rfl; have r3 : w3.cell? ⟨b1, 2, none⟩ = some (.int .i64 0) := blk_cell hra.b rfl; have f1 : w3.frozen? ⟨b1, 0, none⟩ = false := blk_free hra.b; have f2 : w3.frozen? ⟨b1, 1, none⟩ = false := blk_free hra.b; have f3 : w3.frozen? ⟨b1, 2, none⟩ = false := blk_free hra.b; clear hra hk3)
  go_wp2
  have hs0 := HRB.out.set0 HN.out.2.1 (.slice none 0 0)
  have hs1 := hs0.set1 HN.out.2.1 (.int .i64 5) (.int .i64 0) (.int .i64 0)
  have q0 := blk_cell (o := 0) (v := .slice none 0 0) hs1.a rfl
  have q1 := blk_cell (o := 0) (v := .int .i64 5) hs1.b rfl
  have q2 := blk_cell (o := 1) (v := .int .i64 0) hs1.b rfl
  have q3 := blk_cell (o := 2) (v := .int .i64 0) hs1.b rfl
  have hw0 := HN.out.1
  have hkf := ((((HKS.out.trans HK3.out).setCell (p := ⟨b0, 0, none⟩) (by show w.heap.size ≤ b0; omega) (.slice none 0 0)).setCell (p := ⟨b1, 0, none⟩) (by show w.heap.size ≤ b1; have := HN.out; omega) (.int .i64 5)).setCell (p := ⟨b1, 1, none⟩) (by show w.heap.size ≤ b1; have := HN.out; omega) (.int .i64 0)).setCell (p := ⟨b1, 2, none⟩) (by show w.heap.size ≤ b1; have := HN.out; omega) (.int .i64 0)
  refine ⟨_, by simp [results, Try.results4, go_sem, q0, q1, q2, q3], .inr ⟨lt, HR.out, .inl ⟨5, HPM.out, rfl⟩⟩, hkf⟩
 ·have hd2 := eq_false_of_ne_true hd
  have HD2 := hid hd2
  have hfin := fin_files (8 * (lt.map tkOf).length + 8) [] (lt.map tkOf) (by omega)
  have hnf : filesF (8 * (lt.map tkOf).length + 8) [] (lt.map tkOf) ≠ .out := by intro e; rw [e] at hfin; exact hfin
  have HNF := hid hnf
  clear hd hfin hnf
  cases hq : filesF (8 * (lt.map tkOf).length + 8) [] (lt.map tkOf) with
  | out => exact absurd hq HNF.out
  | bad =>
   have HQ := hid hq
   have HPM := hid (show parseM (lt.map tkOf) = .error 6 by unfold parseM treeM; rw [if_neg (by rw [HD2.out]; decide), hq])
   clear hq
   go_upto_region 8 with (go_at_call 8; go_must (refine (deep_any _ _ lt HTK.out HPL.out.2.1).mono ?_); rintro e w3 ⟨rfl, hk3⟩; rw [hd2]; have HK3 := hid hk3; have hra := HS1.out.kp hk3; have HRB := hid hra; clear hra hk3)
   have HST := hid (start_at HTK.out HK3.out HPL.out.2.1)
   have HRC := hid (HRB.out.kp ((Kp.refl w3).alloc (.cells (rdrC (.slice A1 lt.length c1) 0 (.slice none 0 0)) 47)))
   have HLE := hid (show b0 < w3.heap.size ∧ b1 < w3.heap.size from ⟨blk_lt HRB.out.a, blk_lt HRB.out.b⟩)
   have HKB := hid (HKS.out.trans (HK3.out.alloc (.cells (rdrC (.slice A1 lt.length c1) 0 (.slice none 0 0)) 47)))
   unfold rdrC at HST HRC HKB
   go_wp2_with (go_at_call 10; go_must (refine (file_ok (8 * (lt.map tkOf).length + 8) HST.out HNF.out).mono ?_); rw [HQ.out]; rintro e w9 ⟨rfl, hb⟩; unfold stopP; have HB9 := hid hb; clear hb)
   refine leaves_cons (f := 9) (args := #[.pointer (some ⟨b0, 0, none⟩), .pointer (some ⟨b1, 0, none⟩)]) (by simp) (by simp [go_sem]) ?_
   refine (catch_stopP _ b0 b0 b1 _ _ _ _ (HRC.out.below HB9.out HLE.out.1 HLE.out.2) HN.out.2.1 (Nat.le_refl _) HN.out.2.2 []).mono ?_
   rintro e u' w'' ⟨rfl, rfl, hr3, hb3⟩
   have q0 : w''.cell? ⟨b0, 0, none⟩ = some (.slice none 0 0) := blk_cell hr3.a rfl
   have q1 : w''.cell? ⟨b1, 0, none⟩ = some (.int .i64 6) := blk_cell hr3.b rfl
   have q2 : w''.cell? ⟨b1, 1, none⟩ = some (.int .i64 0) := blk_cell hr3.b rfl
   have q3 : w''.cell? ⟨b1, 2, none⟩ = some (.int .i64 0) := blk_cell hr3.b rfl
   have hkf : Kp w w'' := Below.trans HKB.out (Below.trans (Below.mono HB9.out (by have := HKS.out.le; have := HK3.out.le; omega)) (by have h := HN.out.1; rw [h]; exact hb3))
   refine ⟨_, by simp [results, Try.results4, go_sem, q0, q1, q2, q3], .inr ⟨lt, HR.out, .inl ⟨6, HPM.out, rfl⟩⟩, hkf⟩
  | ok ks r =>
   have HQ := hid hq
   have HPM := hid (show parseM (lt.map tkOf) = .ok (Pa.nd 1 ks) by unfold parseM treeM; rw [if_neg (by rw [HD2.out]; decide), hq])
   clear hq
   go_upto_region 8 with (go_at_call 8; go_must (refine (deep_any _ _ lt HTK.out HPL.out.2.1).mono ?_); rintro e w3 ⟨rfl, hk3⟩; rw [hd2]; have HK3 := hid hk3; have hra := HS1.out.kp hk3; have HRB := hid hra; clear hra hk3)
   have HST := hid (start_at HTK.out HK3.out HPL.out.2.1)
   have HRC := hid (HRB.out.kp ((Kp.refl w3).alloc (.cells (rdrC (.slice A1 lt.length c1) 0 (.slice none 0 0)) 47)))
   have HLE := hid (show b0 < w3.heap.size ∧ b1 < w3.heap.size from ⟨blk_lt HRB.out.a, blk_lt HRB.out.b⟩)
   have HKB := hid (HKS.out.trans (HK3.out.alloc (.cells (rdrC (.slice A1 lt.length c1) 0 (.slice none 0 0)) 47)))
   unfold rdrC at HST HRC HKB
   go_upto_region 9 with (go_at_call 10; go_must (refine (file_ok (8 * (lt.map tkOf).length + 8) HST.out HNF.out).mono ?_); rw [HQ.out]; rintro e w9 ⟨q, rfl, hs⟩; have HSF := hid hs; clear hs)
   have hb9 := HSF.out.low
   have hra := HRC.out.below hb9 HLE.out.1 HLE.out.2
   have HRB := hid hra
   obtain ⟨new, hn⟩ := HSF.out
   obtain ⟨lv, tv, nn, hp⟩ := hn.prs
   obtain ⟨A6, c6, rfl⟩ := hp.tform
   have HP := hid hp
   have HIS := hid hn.is_
   have p2 := hp.c2
   have plt := hp.rp_lt
   have r0 : w9.cell? ⟨b0, 0, none⟩ = some (.slice none 0 0) := blk_cell hra.a rfl
   have f0 : w9.frozen? ⟨b0, 0, none⟩ = false := blk_free hra.a
   have r1 : w9.cell? ⟨b1, 0, none⟩ = some (.int .i64 0) := blk_cell hra.b rfl
   have r2 : w9.cell? ⟨b1, 1, none⟩ = some (.int .i64 0) := blk_cell hra.b rfl
   have r3 : w9.cell? ⟨b1, 2, none⟩ = some (.int .i64 0) := blk_cell hra.b rfl
   have f1 : w9.frozen? ⟨b1, 0, none⟩ = false := blk_free hra.b
   have f2 : w9.frozen? ⟨b1, 1, none⟩ = false := blk_free hra.b
   have f3 : w9.frozen? ⟨b1, 2, none⟩ = false := blk_free hra.b
   have HKC := hid (show Kp w w9 from Below.trans HKB.out (Below.mono hb9 (by have := HKS.out.le; have := HK3.out.le; omega)))
   clear hra hn hp hb9
   go_wp2
   refine leaves_cons (f := 9) (args := #[.pointer (some ⟨b0, 0, none⟩), .pointer (some ⟨b1, 0, none⟩)]) (by simp) (by simp [go_sem]) ?_
   refine (catch_idleP _ ⟨b0, 0, none⟩ ⟨b1, 0, none⟩).mono ?_
   rintro e u' w'' ⟨rfl, rfl, rfl⟩
   have hs0 := HRB.out.set0 n1 (.slice A6 new.length c6)
   have hs1 := hs0.set1 n1 (.int .i64 0) (.int .i64 0) (.int .i64 0)
   have q0 := blk_cell (o := 0) (v := .slice A6 new.length c6) hs1.a rfl
   have q1 := blk_cell (o := 0) (v := .int .i64 0) hs1.b rfl
   have q2 := blk_cell (o := 1) (v := .int .i64 0) hs1.b rfl
   have q3 := blk_cell (o := 2) (v := .int .i64 0) hs1.b rfl
   have t0 := tree_touch HP.out.tree (rowTouch (o := 0) HRB.out.a (.slice A6 new.length c6)) (by decide) (by decide)
   have t1 := tree_touch t0 (rowTouch (o := 0) hs0.b (.int .i64 0)) (by decide) (by decide)
   have t2 := tree_touch t1 (rowTouch (o := 1) (blk_set hs0.b _) (.int .i64 0)) (by decide) (by decide)
   have t3 := tree_touch t2 (rowTouch (o := 2) (blk_set (blk_set hs0.b _) _) (.int .i64 0)) (by decide) (by decide)
   have hkf := (((HKC.out.setCell (p := ⟨b0, 0, none⟩) (by show w.heap.size ≤ b0; have := HN.out; omega) (.slice A6 new.length c6)).setCell (p := ⟨b1, 0, none⟩) (by show w.heap.size ≤ b1; have := HN.out; omega) (.int .i64 0)).setCell (p := ⟨b1, 1, none⟩) (by show w.heap.size ≤ b1; have := HN.out; omega) (.int .i64 0)).setCell (p := ⟨b1, 2, none⟩) (by show w.heap.size ≤ b1; have := HN.out; omega) (.int .i64 0)
   have hbse : w.heap.size ≤ w3.heap.size := by have := HKS.out.le; have := HK3.out.le; omega
   have hbd := HP.out.bd
   refine ⟨_, by simp [results, Try.results4, go_sem, q0, q1, q2, q3], .inr ⟨lt, HR.out, .inr ⟨Pa.nd 1 ks, .slice A6 new.length c6, HPM.out, rfl, new, ?_, ?_, HP.out.nd, ?_⟩⟩, hkf⟩
   ·exact (OwnL.base_ hbse t3).mono (fun cs a h => ⟨h.1, own_base hbse h.2.1, h.2.2⟩)
   ·have := HIS.out
    simpa [flatL] using this
   ·simp at hbd; omega
theorem parse_any (w : World) (S : ByteArray) (hs : S.size ≤ 140737488351232) : Calls Try.prog 4 #[.string S] w (ParP w S) := by
 obtain ⟨r, hr⟩ := toks_ex S
 cases r with
 | ok lt => exact parse_ok w S lt hr
 | error er => exact parse_err w S hs er hr
theorem parse_hit (w : World) (S : ByteArray) {lt : List TokenM} {t : T} (hr : ToksM S (.ok lt)) (hp : parseM (lt.map tkOf) = .ok t) : Calls Try.prog 4 #[.string S] w fun e w' => (∃ v, e = .returned (.tuple #[v, .agg #[.int .i64 0, .int .i64 0, .int .i64 0]]) ∧ ParO w' w.heap.size v t) ∧ Kp w w' := by
 refine (parse_ok w S lt hr).mono ?_
 rintro e w' ⟨h | ⟨lt2, h1, h⟩, hk⟩
 ·obtain ⟨er, h1, _⟩ := h
  have := hr.det h1
  cases this
 ·have hd := hr.det h1
  injection hd with hd
  subst hd
  rcases h with ⟨c, h2, _⟩ | ⟨t2, v, h2, h3, h4⟩
  ·rw [hp] at h2; cases h2
  ·rw [hp] at h2
   injection h2 with h2
   subst h2
   exact ⟨⟨v, h3, h4⟩, hk⟩
end Go.Proofs.Ytcjgagmcnmmfoaa.Pa

namespace Go.Proofs.Ytcjgagmcnmmfoaa.Pa
open Go.RowKit

def Sz {α : Type} (n : α → Nat) (c : Nat) (p : Pr α) : Prop := match p with
 | .ok a r => n a + 2 * r.length ≤ c
 | _ => True
theorem Sz.bind {α β : Type} {n : α → Nat} {m : β → Nat} {c d : Nat} {x : Pr α} {f : α → List Tk → Pr β} (h : Sz n c x) (g : ∀ a r, n a + 2 * r.length ≤ c → Sz m d (f a r)) : Sz m d (x.bind f) := by
 cases x with
 | ok a r => exact g a r h
 | bad => exact trivial
 | out => exact trivial
theorem Sz.mono {α : Type} {n m : α → Nat} {c d : Nat} {x : Pr α} (h : Sz n c x) (g : ∀ a e, n a + e ≤ c → m a + e ≤ d) : Sz m d x := by
 cases x with
 | ok a r => exact g a _ h
 | bad => exact trivial
 | out => exact trivial
theorem szz_tail {l : List Tk} (h : l ≠ []) : l.tail.length + 1 = l.length := by cases l with | nil => exact absurd rfl h | cons t r => rfl
theorem sgn_nil {s : Bs} {l : List Tk} (h : isSign s l = true) : l ≠ [] := by rintro rfl; simp [isSign] at h
theorem knd_nil {k : Int} {l : List Tk} (h : kindOf l = k) (hk : k ≠ 0) : l ≠ [] := by rintro rfl; exact hk h.symm
theorem sg {s : Bs} {l : List Tk} (h : isSign s l = true) : l.tail.length + 1 = l.length := szz_tail (sgn_nil h)
theorem frst_nil {ss : List Bs} {l : List Tk} {s : Bs} (h : firstOf ss l = some s) : l.tail.length + 1 = l.length := by
 have := List.find?_some h
 exact sg (by simpa using this)
theorem sz_want (s : Bs) (l : List Tk) : Sz (fun _ => 2) (2 * l.length) (want s l) := by
 unfold want
 split
 ·rename_i h; have := sg h; show 2 + 2 * l.tail.length ≤ _; omega
 ·exact trivial
theorem sz_name (l : List Tk) : Sz (fun _ => 2) (2 * l.length) (nmM l) := by
 unfold nmM
 split
 ·rename_i h; have := szz_tail (knd_nil h (by decide)); show 2 + 2 * l.tail.length ≤ _; omega
 ·exact trivial
theorem sz_first (b : Bool) (s : Bs) (l : List Tk) : Sz (fun _ => 0) (2 * l.length) (if b = true then .ok () l else want s l) := by
 split
 ·show 0 + 2 * l.length ≤ _; omega
 ·exact (sz_want s l).mono fun _ e h => by omega
theorem sz_firstE (b : Prop) [Decidable b] (s : Bs) (l : List Tk) : Sz (fun _ => 0) (2 * l.length) (if b then .ok () l else want s l) := by
 split
 ·show 0 + 2 * l.length ≤ _; omega
 ·exact (sz_want s l).mono fun _ e h => by omega
theorem sz_typ : ∀ f, (∀ l, Sz (fun _ => 0) (2 * l.length) (typF f l)) ∧ (∀ ps l, Sz (fun _ => 0) (2 * l.length) (typsF f ps l))
 | 0 => ⟨fun l => by rw [typF]; exact trivial, fun _ l => by rw [typsF]; exact trivial⟩
 | f + 1 => by
  obtain ⟨h1, h2⟩ := sz_typ f
  constructor
  ·intro l
   rw [typF]
   split
   ·have := frst_nil ‹_›; show 0 + 2 * l.tail.length ≤ _; omega
   ·split
    ·have := sg ‹_›
     exact (sz_want _ _).bind fun _ r a => (sz_want _ r).bind fun _ r2 b => by show 0 + 2 * r2.length ≤ _; omega
    ·split
     ·have := sg ‹_›
      exact (sz_want _ _).bind fun _ r a => by show 0 + 2 * r.length ≤ _; omega
     ·refine (sz_want _ _).bind fun _ r a => (sz_want _ r).bind fun _ r2 b => (h2 _ r2).bind fun ps r3 c => ?_
      refine Sz.bind (n := fun _ => 0) (c := 2 * r3.length) ?_ fun q r4 d => ?_
      ·split
       ·exact h1 _
       ·show 0 + 2 * r3.length ≤ _; omega
      ·split
       ·show 0 + 2 * r4.length ≤ _; omega
       ·exact trivial
  ·intro ps l
   rw [typsF]
   split
   ·have := sg ‹_›; show 0 + 2 * l.tail.length ≤ _; omega
   ·exact (sz_firstE _ _ l).bind fun _ r a => (h1 r).bind fun _ r2 b => (h2 _ r2).mono fun _ e h => by omega
theorem sz_pars : ∀ f ps l, Sz sizeL (2 * l.length + sizeL ps) (parsF f ps l)
 | 0, _, l => by rw [parsF]; exact trivial
 | f + 1, ps, l => by
  rw [parsF]
  split
  ·have := sg ‹_›; show sizeL ps + 2 * l.tail.length ≤ _; omega
  ·refine (sz_firstE _ _ l).bind fun _ r a => ?_
   split
   ·exact trivial
   ·refine (sz_name r).bind fun s r2 b => ((sz_typ f).1 r2).bind fun t r3 c => (sz_pars f _ r3).mono fun x e h => ?_
    rw [sizeL_app] at h
    simp only [sizeL, sizeT] at h
    omega
theorem sz_res (f : Nat) (l : List Tk) : Sz sizeT (2 * l.length + 1) (resF f l) := by
 unfold resF
 split
 ·have := sg ‹_›
  exact (sz_name _).bind fun s r a => ((sz_typ f).1 r).bind fun t r2 b => (sz_want _ r2).bind fun _ r3 c => by show sizeT _ + 2 * r3.length ≤ _; simp only [sizeT, sizeL]; omega
 ·split
  ·exact ((sz_typ f).1 l).bind fun t r2 b => by show sizeT _ + 2 * r2.length ≤ _; simp only [sizeT, sizeL]; omega
  ·show sizeT _ + 2 * l.length ≤ _; simp only [nd, sizeT, sizeL]; omega
def eT (t : T) : Nat := sizeT t + 1
structure SzAll (f : Nat) : Prop where
 expr : ∀ n l, Sz eT (2 * l.length) (exprF f n l)
 loop : ∀ n a l, Sz eT (2 * l.length + eT a) (loopF f n a l)
 unary : ∀ l, Sz eT (2 * l.length) (unaryF f l)
 prim : ∀ l, Sz eT (2 * l.length) (primF f l)
 list : ∀ s b ks l, Sz sizeL (2 * l.length + sizeL ks) (listF f s b ks l)
 beh : ∀ a l, Sz eT (2 * l.length + eT a) (behF f a l)
 ins : ∀ a l, Sz eT (2 * l.length + 1 + eT a) (insF f a l)
 end_ : ∀ a b l, Sz eT (2 * l.length + eT a + sizeT b) (endF f a b l)
 fun_ : ∀ k s l, Sz eT (2 * l.length) (funF f k s l)
 block : ∀ l, Sz eT (2 * l.length) (blockF f l)
 stms : ∀ ks l, Sz sizeL (2 * l.length + sizeL ks) (stmsF f ks l)
 stm : ∀ l, Sz sizeT (2 * l.length) (stmF f l)
 ifs : ∀ l, Sz sizeT (2 * l.length) (ifsF f l)
 sim : ∀ l, Sz sizeT (2 * l.length) (simF f l)
theorem sz_all : ∀ f, SzAll f
 | 0 => by
  constructor <;> intros <;> (first | rw [exprF] | rw [loopF] | rw [unaryF] | rw [primF] | rw [listF] | rw [behF] | rw [insF] | rw [endF] | rw [funF] | rw [blockF] | rw [stmsF] | rw [stmF] | rw [ifsF] | rw [simF]) <;> exact trivial
 | f + 1 => by
  have H := sz_all f
  constructor
  ·intro n l; rw [exprF]; exact (H.unary _).bind fun a r h => (H.loop _ _ _).mono fun _ e q => by omega
  ·intro n a l; rw [loopF]
   split
   ·rename_i s m hb
    have hl : l.tail.length + 1 = l.length := by
     unfold binop at hb
     split at hb
     ·exact szz_tail (knd_nil ‹_› (by decide))
     ·cases hb
    exact (H.expr _ _).bind fun b r h => (H.loop _ _ _).mono fun _ e q => by simp only [eT, sizeT, sizeL] at *; omega
   ·show eT a + 2 * l.length ≤ _; omega
  ·intro l; rw [unaryF]
   split
   ·have := frst_nil ‹_›
    exact (H.unary _).bind fun a r h => by show eT _ + 2 * r.length ≤ _; simp only [eT, sizeT, sizeL] at *; omega
   ·split
    ·have := sg ‹_›
     exact (sz_name _).bind fun s r h => by show eT _ + 2 * r.length ≤ _; simp only [eT, sizeT, sizeL] at *; omega
    ·exact (H.prim _).bind fun a r h => (H.beh _ _).mono fun _ e q => by omega
  ·intro l; rw [primF]
   split
   ·have := szz_tail (knd_nil ‹_› (by decide)); show eT _ + 2 * l.tail.length ≤ _; simp only [eT, sizeT, sizeL]; omega
   split
   ·have := szz_tail (knd_nil ‹_› (by decide)); show eT _ + 2 * l.tail.length ≤ _; simp only [eT, sizeT, sizeL]; omega
   split
   ·have := szz_tail (knd_nil ‹_› (by decide)); show eT _ + 2 * l.tail.length ≤ _; simp only [eT, sizeT, sizeL]; omega
   split
   ·have := sg ‹_›; show eT _ + 2 * l.tail.length ≤ _; simp only [eT, sizeT, sizeL]; omega
   split
   ·have := sg ‹_›; show eT _ + 2 * l.tail.length ≤ _; simp only [eT, nd, sizeT, sizeL]; omega
   split
   ·have := sg ‹_›; show eT _ + 2 * l.tail.length ≤ _; simp only [eT, nd, sizeT, sizeL]; omega
   split
   ·have := sg ‹_›
    exact (H.expr _ _).bind fun a r h => (sz_want _ r).bind fun _ r2 q => by show eT a + 2 * r2.length ≤ _; omega
   split
   ·have := sg ‹_›
    exact (H.fun_ _ _ _).mono fun _ e q => by omega
   ·exact (sz_want _ l).bind fun _ r a => (sz_want _ r).bind fun _ r2 b => (sz_want _ r2).bind fun _ r3 c => (sz_want _ r3).bind fun _ r4 d => (H.list _ _ _ _).bind fun ks r5 h => by
     show eT _ + 2 * r5.length ≤ _; simp only [eT, nd, sizeT, sizeL] at *; omega
  ·intro s b ks l; rw [listF]
   split
   ·have := sg ‹_›; show sizeL ks + 2 * l.tail.length ≤ _; omega
   ·exact (sz_first _ _ l).bind fun _ r h => (H.expr _ _).bind fun a r2 q => (H.list _ _ _ _).mono fun _ e z => by
     rw [sizeL_app] at z; simp only [eT, sizeL] at *; omega
  ·intro a l; rw [behF]
   split
   ·have := sg ‹_›
    exact (H.list _ _ _ _).bind fun ks r h => (H.beh _ _).mono fun _ e q => by simp only [eT, nd, sizeT, sizeL] at *; omega
   split
   ·have := sg ‹_›
    exact (H.ins _ _).bind fun b r h => (H.beh _ _).mono fun _ e q => by omega
   ·show eT a + 2 * l.length ≤ _; omega
  ·intro a l; rw [insF]
   split
   ·exact (sz_want _ l).bind fun _ r h => (H.end_ _ _ _).mono fun _ e q => by simp only [eT, nd, sizeT, sizeL] at *; omega
   ·refine (H.expr _ _).bind fun b r h => ?_
    split
    ·have := sg ‹_›; show eT _ + 2 * r.tail.length ≤ _; simp only [eT, nd, sizeT, sizeL] at *; omega
    ·exact (sz_want _ r).bind fun _ r2 q => (H.end_ _ _ _).mono fun _ e z => by simp only [eT] at *; omega
  ·intro a b l; rw [endF]
   refine Sz.bind (n := sizeT) (c := 2 * l.length + 1) ?_ fun c r h => (sz_want _ r).bind fun _ r2 q => by show eT _ + 2 * r2.length ≤ _; simp only [eT, nd, sizeT, sizeL] at *; omega
   split
   ·show sizeT _ + 2 * l.length ≤ _; simp only [nd, sizeT, sizeL]; omega
   ·exact (H.expr _ _).mono fun _ e q => by simp only [eT] at *; omega
  ·intro k s l; rw [funF]
   exact (sz_want _ l).bind fun _ r a => (sz_pars _ _ r).bind fun ps r2 b => (sz_res f r2).bind fun q r3 c => (H.block _).bind fun d r4 h => by
    show eT _ + 2 * r4.length ≤ _; simp only [eT, sizeT, sizeL_app, sizeL] at *; omega
  ·intro l; rw [blockF]
   refine (sz_want _ l).bind fun _ r a => ?_
   cases f with
   | zero => rw [stmsF]; exact trivial
   | succ f => exact (H.stms _ _).bind fun ks r2 h => by show eT _ + 2 * r2.length ≤ _; simp only [eT, nd, sizeT, sizeL] at *; omega
  ·intro ks l; rw [stmsF]
   split
   ·have := sg ‹_›; show sizeL ks + 2 * l.tail.length ≤ _; omega
   split
   ·have := szz_tail (knd_nil ‹_› (by decide)); exact (H.stms _ _).mono fun _ e q => by omega
   ·refine (H.stm _).bind fun a r h => ?_
    split
    ·exact (H.stms _ _).mono fun _ e q => by rw [sizeL_app] at q; simp only [sizeL] at *; omega
    ·exact trivial
  ·intro l; rw [stmF]
   split
   ·exact (H.block _).mono fun _ e q => by simp only [eT] at *; omega
   split
   ·have := sg ‹_›
    exact (sz_name _).bind fun s r h => ((sz_typ f).1 r).bind fun t r2 q => by show sizeT _ + 2 * r2.length ≤ _; simp only [sizeT, sizeL]; omega
   split
   ·have := sg ‹_›; exact (H.ifs _).mono fun _ e q => by omega
   split
   ·have := sg ‹_›
    refine Sz.bind (n := sizeL) (c := 2 * l.tail.length) ?_ fun ks r h => (H.block _).bind fun b r2 q => by show sizeT _ + 2 * r2.length ≤ _; simp only [eT, nd, sizeT, sizeL_app, sizeL] at *; omega
    split
    ·show sizeL [] + 2 * l.tail.length ≤ _; simp only [sizeL]; omega
    ·exact (H.expr _ _).bind fun a r h => by show sizeL [a] + 2 * r.length ≤ _; simp only [eT, sizeL] at *; omega
   split
   ·have := sg ‹_›; show sizeT _ + 2 * l.tail.length ≤ _; simp only [nd, sizeT, sizeL]; omega
   split
   ·have := sg ‹_›; show sizeT _ + 2 * l.tail.length ≤ _; simp only [nd, sizeT, sizeL]; omega
   split
   ·have := sg ‹_›
    split
    ·show sizeT _ + 2 * l.tail.length ≤ _; simp only [nd, sizeT, sizeL]; omega
    ·exact (H.expr _ _).bind fun a r h => by show sizeT _ + 2 * r.length ≤ _; simp only [eT, nd, sizeT, sizeL] at *; omega
   split
   ·have := sg ‹_›
    refine (H.expr _ _).bind fun a r h => ?_
    split
    ·show sizeT _ + 2 * r.length ≤ _; simp only [eT, nd, sizeT, sizeL] at *; omega
    ·exact trivial
   ·exact H.sim _
  ·intro l; rw [ifsF]
   refine (H.expr _ _).bind fun a r h => (H.block _).bind fun b r2 q => ?_
   split
   ·have h1 := sg ‹_›
    refine Sz.bind (n := sizeT) (c := 2 * r2.tail.length) ?_ fun c r3 z => by show sizeT _ + 2 * r3.length ≤ _; simp only [eT, nd, sizeT, sizeL] at *; omega
    split
    ·have h2 := sg ‹_›
     exact (H.ifs _).mono fun _ e z => by omega
    ·exact (H.block _).mono fun _ e z => by simp only [eT] at *; omega
   ·show sizeT _ + 2 * r2.length ≤ _; simp only [eT, nd, sizeT, sizeL] at *; omega
  ·intro l; rw [simF]
   split
   ·rename_i hd
    have h1 := szz_tail (knd_nil (define_kind hd) (by decide))
    have h2 : l.tail.tail.length ≤ l.tail.length := by simp
    exact (H.expr _ _).bind fun a r h => by show sizeT _ + 2 * r.length ≤ _; simp only [eT, sizeT, sizeL] at *; omega
   ·refine (H.expr _ _).bind fun a r h => ?_
    split
    ·have h1 := sg ‹_›
     split
     ·exact (H.expr _ _).bind fun b r2 q => by show sizeT _ + 2 * r2.length ≤ _; simp only [eT, nd, sizeT, sizeL] at *; omega
     ·exact trivial
    ·split
     ·show sizeT _ + 2 * r.length ≤ _; simp only [eT, nd, sizeT, sizeL] at *; omega
     ·exact trivial
def pL (ks : List T) : Nat := if ks = [] then 0 else sizeL ks + 1
theorem pL_snoc (ks : List T) (a : T) : pL (ks ++ [a]) ≤ pL ks + sizeT a + 1 := by
 unfold pL
 rw [if_neg (by simp), sizeL_app]
 simp only [sizeL]
 split
 ·rename_i h; subst h; simp only [sizeL]; omega
 ·omega
theorem sz_files : ∀ f ks l, Sz pL (2 * l.length + pL ks) (filesF f ks l)
 | 0, _, l => by rw [filesF]; exact trivial
 | f + 1, ks, [] => by rw [filesF]; show pL ks + 2 * 0 ≤ _; simp
 | f + 1, ks, t :: r => by
  rw [filesF]
  split
  ·exact (sz_files f ks r).mono fun _ e h => by simp only [List.length_cons]; omega
  ·refine (sz_want _ _).bind fun _ r2 a => (sz_name _).bind fun s r3 b => ((sz_all f).fun_ _ _ _).bind fun d r4 h => ?_
   split
   ·refine (sz_files f _ r4).mono fun _ e q => ?_
    have := pL_snoc ks d
    simp only [eT] at h
    omega
   ·exact trivial
theorem parse_size {S : ByteArray} {lt : List TokenM} {t : T} (h : ToksM S (.ok lt)) (hp : parseM (lt.map tkOf) = .ok t) : sizeT t ≤ 4000 := by
 have hl := h.placed.2.1
 unfold parseM at hp
 split at hp
 ·cases hp
 ·unfold treeM at hp
  have hs := sz_files (8 * (lt.map tkOf).length + 8) [] (lt.map tkOf)
  split at hp
  ·rename_i t2 ht
   injection hp with hp
   subst hp
   split at ht
   ·rename_i ks r hq
    injection ht with ht
    subst ht
    rw [hq] at hs
    have hs : pL ks + 2 * r.length ≤ 2 * (lt.map tkOf).length + pL [] := hs
    simp only [pL, List.length_map, if_pos] at hs
    simp only [nd, sizeT]
    split at hs
    ·rename_i h0; subst h0; simp only [sizeL]; omega
    ·omega
   ·cases ht
  ·cases hp
end Go.Proofs.Ytcjgagmcnmmfoaa.Pa

namespace Go.Proofs.Ytcjgagmcnmmfoaa
open Go.RowKit

def kt (t : TokenM) : Int × ByteArray := (t.kind, t.text)
inductive Reach (S : ByteArray) : CutM → CutM → Prop
 | refl {c : CutM} : Reach S c c
 | step {c c1 d : CutM} : c.pos < S.size → stepM S c = .ok c1 → Reach S c1 d → Reach S c d
theorem Reach.trans {S : ByteArray} {a b c : CutM} (h : Reach S a b) (h2 : Reach S b c) : Reach S a c := by
 induction h with
 | refl => exact h2
 | step h3 h4 _ ih => exact .step h3 h4 (ih h2)
theorem Reach.rest {S : ByteArray} {a b : CutM} {r : Except Err (List TokenM)} (h : Reach S a b) (h2 : Runs S a r) : Runs S b r := by
 induction h with
 | refl => exact h2
 | step h3 h4 _ ih =>
  refine ih ?_
  cases h2 with
  | fin h => omega
  | step _ h5 h6 => rw [h4] at h5; injection h5 with h5; subst h5; exact h6
  | bad _ h5 => rw [h4] at h5; cases h5
theorem Reach.bd {S : ByteArray} {a b : CutM} (h : Reach S a b) (hb : CInv S a) : CInv S b ∧ a.pos ≤ b.pos := by
 induction h with
 | refl => exact ⟨hb, Nat.le_refl _⟩
 | step h3 h4 _ ih =>
  obtain ⟨k1, k2⟩ := hb.step h3 h4
  obtain ⟨k3, k4⟩ := ih k1
  exact ⟨k3, by omega⟩
theorem putM_sim {c c' : CutM} {k : Int} {t t' : ByteArray} {n n' : Nat} (hs : c.out.map kt = c'.out.map kt) (ht : t = t') {c1 : CutM} (h : putM c k t n = .ok c1) : ∃ c1', putM c' k t' n' = .ok c1' ∧ c1.out.map kt = c1'.out.map kt ∧ c1'.pos = c'.pos + n' ∧ c1.pos = c.pos + n := by
 obtain ⟨h1, rfl⟩ := putM_ok h
 have hl : c'.out.length = c.out.length := by have := congrArg List.length hs; simpa using this.symm
 refine ⟨{ c' with pos := c'.pos + n', col := c'.col + n', out := c'.out ++ [⟨k, t', c'.line, c'.col⟩] }, by unfold putM; rw [if_neg (by omega)], ?_, rfl, rfl⟩
 show (c.out ++ [_]).map kt = (c'.out ++ [_]).map kt
 rw [List.map_append, List.map_append, hs, ht]; rfl
theorem last_sim {l l' : List TokenM} (hs : l.map kt = l'.map kt) : (l.getLast?).map kt = (l'.getLast?).map kt := by
 rw [← List.getLast?_map, ← List.getLast?_map, hs]
theorem lineEndM_sim {c c' : CutM} (hs : c.out.map kt = c'.out.map kt) {c1 : CutM} (h : lineEndM c = .ok c1) : ∃ c1', lineEndM c' = .ok c1' ∧ c1.out.map kt = c1'.out.map kt ∧ c1'.pos = c'.pos ∧ c1.pos = c.pos := by
 have hl := last_sim hs
 unfold lineEndM at h ⊢
 cases ho : c.out.getLast? with
 | none =>
  rw [ho] at h hl
  injection h with h; subst h
  cases ho' : c'.out.getLast? with
  | none => exact ⟨c', rfl, hs, rfl, rfl⟩
  | some t' => rw [ho'] at hl; cases hl
 | some t =>
  rw [ho] at h hl
  cases ho' : c'.out.getLast? with
  | none => rw [ho'] at hl; cases hl
  | some t' =>
   rw [ho'] at hl
   injection hl with hl
   injection hl with h1 h2
   dsimp only at h ⊢
   rw [h1, h2] at h
   split at h
   ·rename_i he
    rw [if_pos he]
    obtain ⟨c1', k1, k2, k3, k4⟩ := putM_sim (n' := 0) hs rfl h
    exact ⟨c1', k1, k2, k3, k4⟩
   ·rename_i he
    rw [if_neg he]
    injection h with h; subst h
    exact ⟨c', rfl, hs, rfl, rfl⟩
theorem ext_same {S S' : ByteArray} {a a' n : Nat} (h : restOf S a = restOf S' a') : S.extract a (a + n) = S'.extract a' (a' + n) := by
 refine (bytes_eq (ext_rest S a n)).trans ?_
 rw [h]
 exact (bytes_eq (ext_rest S' a' n)).symm
theorem step_sim {S S' : ByteArray} {c c' c1 : CutM} (hr : restOf S c.pos = restOf S' c'.pos) (hs : c.out.map kt = c'.out.map kt) (h : stepM S c = .ok c1) : ∃ c1', stepM S' c' = .ok c1' ∧ c1.out.map kt = c1'.out.map kt ∧ restOf S c1.pos = restOf S' c1'.pos := by
 have hd : ∀ n, restOf S (c.pos + n) = restOf S' (c'.pos + n) := fun n => by rw [← rest_drop, hr, rest_drop]
 unfold stepM at h ⊢
 rw [← hr]
 split at h
 ·cases hq : lineEndM c with
  | error e => rw [hq] at h; cases h
  | ok c2 =>
   rw [hq] at h
   injection h with h; subst h
   obtain ⟨c2', k1, k2, k3, k4⟩ := lineEndM_sim hs hq
   rw [k1]
   refine ⟨_, rfl, k2, ?_⟩
   show restOf S (c2.pos + 1) = restOf S' (c2'.pos + 1)
   rw [k3, k4]; exact hd 1
 ·rename_i n hn
  injection h with h; subst h
  exact ⟨_, rfl, hs, hd n⟩
 ·rename_i k n hn
  obtain ⟨c1', k1, k2, k3, k4⟩ := putM_sim (n' := n) hs (ext_same (n := n) hr) h
  exact ⟨c1', k1, k2, by rw [k3, k4]; exact hd n⟩
 ·cases h
theorem rest_size {S S' : ByteArray} {a a' : Nat} (h : restOf S a = restOf S' a') : (a < S.size ↔ a' < S'.size) := by
 have := congrArg List.length h
 rw [rest_len, rest_len] at this
 omega
theorem Runs.sim {S S' : ByteArray} {c : CutM} {r : Except Err (List TokenM)} (h : Runs S c r) : ∀ (c' : CutM) (l : List TokenM), r = .ok l → restOf S c.pos = restOf S' c'.pos → c.out.map kt = c'.out.map kt → ∃ l', Runs S' c' (.ok l') ∧ l.map kt = l'.map kt := by
 induction h with
 | @fin c hf =>
  intro c' l hl hr hs
  cases hq : lineEndM c with
  | error e => rw [hq] at hl; cases hl
  | ok c2 =>
   rw [hq] at hl
   injection hl with hl; subst hl
   obtain ⟨c2', k1, k2, _⟩ := lineEndM_sim hs hq
   have := rest_size hr
   refine ⟨c2'.out, ?_, k2⟩
   have h := Runs.fin (S := S') (c := c') (by omega)
   rw [k1] at h; exact h
 | @step c c1 r h1 h2 h3 ih =>
  intro c' l hl hr hs
  obtain ⟨c1', k1, k2, k3⟩ := step_sim hr hs h2
  obtain ⟨l', k4, k5⟩ := ih c1' l hl k3 k2
  exact ⟨l', .step ((rest_size hr).1 h1) k1 k4, k5⟩
 | bad _ _ => intro c' l hl; cases hl
def Soft (v : Bs) : Prop := v = [] ∨ ∃ r, v = 32 :: r
theorem span_app {p : UInt8 → Bool} : ∀ (x v : Bs), span_ p (x ++ v) = if span_ p x = x.length then x.length + span_ p v else span_ p x
 | [], v => by simp [span_]
 | b :: x, v => by
  have ih := span_app (p := p) x v
  by_cases hb : p b = true
  ·rw [List.cons_append, span_cons hb, span_cons hb, ih]
   by_cases h : span_ p x = x.length
   ·rw [if_pos h, if_pos (by simp [h])]; simp; omega
   ·rw [if_neg h, if_neg (by simp; exact h)]
  ·have hb' : p b = false := by cases h : p b with | true => exact absurd h hb | false => rfl
   rw [List.cons_append, span_stop hb', span_stop hb', if_neg (by simp)]
theorem span_loc {p : UInt8 → Bool} {x v v' : Bs} (hn : span_ p (x ++ v) ≤ x.length) (hv : span_ p v' = 0) : span_ p (x ++ v') = span_ p (x ++ v) ∧ (span_ p (x ++ v) = x.length → span_ p v = 0) := by
 rw [span_app] at hn ⊢
 rw [span_app]
 have := span_le p x
 by_cases h : span_ p x = x.length
 ·rw [if_pos h] at hn ⊢
  rw [if_pos h]
  exact ⟨by omega, fun _ => by omega⟩
 ·rw [if_neg h, if_neg h]
  exact ⟨rfl, fun h2 => absurd h2 h⟩
theorem soft_word {v : Bs} (h : Soft v) : span_ wordB v = 0 := by
 rcases h with rfl | ⟨r, rfl⟩
 ·rfl
 ·exact span_stop (by decide)
theorem txt_loc : ∀ (n : Nat) (y v v' : Bs) (k : Nat), y.length ≤ n → txtLen (y ++ v) = some k → k < y.length → txtLen (y ++ v') = some k
 | _, [], v, v', k, _, _, hk => by simp at hk
 | _, [c], v, v', k, _, h, hk => by
  have hk0 : k = 0 := by simp at hk; exact hk
  subst hk0
  by_cases hc : c = 34
  ·subst hc; exact txt_end _
  ·exfalso
   cases v with
   | nil => simp [txtLen, hc] at h
   | cons d r =>
    rw [List.singleton_append, txtLen, if_neg hc] at h
    split at h
    ·cases h
    ·split at h
     ·cases hr : txtLen r with
      | none => rw [hr] at h; cases h
      | some j => rw [hr] at h; simp at h
     ·cases hr : txtLen (d :: r) with
      | none => rw [hr] at h; cases h
      | some j => rw [hr] at h; simp at h
 | 0, c :: d :: r, v, v', k, hn, _, _ => by simp at hn
 | n + 1, c :: d :: r, v, v', k, hn, h, hk => by
  rw [List.cons_append, List.cons_append, txtLen] at h ⊢
  by_cases h1 : c = 34
  ·rw [if_pos h1] at h ⊢; exact h
  rw [if_neg h1] at h ⊢
  by_cases h2 : c = 10
  ·rw [if_pos h2] at h; cases h
  rw [if_neg h2] at h ⊢
  by_cases h3 : c = 92
  ·rw [if_pos h3] at h ⊢
   cases hr : txtLen (r ++ v) with
   | none => rw [hr] at h; cases h
   | some j =>
    rw [hr] at h
    injection h with h
    have h' : j + 2 = k := h
    rw [txt_loc n r v v' j (by simp at hn; omega) hr (by simp at hk; omega)]
    exact congrArg some h'
  ·rw [if_neg h3] at h ⊢
   cases hr : txtLen (d :: (r ++ v)) with
   | none => rw [hr] at h; cases h
   | some j =>
    rw [hr] at h
    injection h with h
    have h' : j + 1 = k := h
    have := txt_loc n (d :: r) v v' j (by simp at hn ⊢; omega) hr (by simp at hk ⊢; omega)
    rw [List.cons_append] at this
    rw [this]
    exact congrArg some h'
theorem sign_loc {x v v' : Bs} (hx : x ≠ []) (hs : Soft v') (hn : signLen (x ++ v) ≤ x.length) : signLen (x ++ v') = signLen (x ++ v) := by
 match x, hx, hn with
 | [a], _, hn =>
  have h2 : ∀ b : UInt8, ∀ r : Bs, signLen (a :: b :: r) ≤ 1 → signLen (a :: b :: r) = if signs1.contains a then 1 else 0 := by
   intro b r h
   simp only [signLen] at h ⊢
   by_cases hc : signs2.contains [a, b] = true
   ·rw [if_pos hc] at h; omega
   ·rw [if_neg hc]
  have e1 : signLen ([a] ++ v) = if signs1.contains a then 1 else 0 := by
   cases v with
   | nil => rfl
   | cons b r => exact h2 b r hn
  have e2 : signLen ([a] ++ v') = if signs1.contains a then 1 else 0 := by
   rcases hs with rfl | ⟨r, rfl⟩
   ·rfl
   ·show signLen (a :: 32 :: r) = _
    simp only [signLen]
    rw [if_neg (by simp [signs2])]
  rw [e1, e2]
 | a :: b :: r, _, hn => rfl
theorem head_app {x v : Bs} (hx : x ≠ []) : (x ++ v).head? = x.head? := by
 cases x with
 | nil => exact absurd rfl hx
 | cons a r => rfl
theorem lex_loc {x v v' : Bs} (hx : x ≠ []) (hs : Soft v') :
  (lex (x ++ v) = .nl → lex (x ++ v') = .nl) ∧
  (∀ n, lex (x ++ v) = .skip n → n ≤ x.length → lex (x ++ v') = .skip n ∨ (n = x.length ∧ lex (x ++ v') = .skip (n + span_ noNl v') ∧ span_ noNl v = 0)) ∧
  (∀ k n, lex (x ++ v) = .tok k n → n ≤ x.length → lex (x ++ v') = .tok k n) := by
 cases x with
 | nil => exact absurd rfl hx
 | cons c y =>
  rw [List.cons_append, List.cons_append]
  by_cases h1 : c = 10
  ·subst h1
   rw [lex_nl, lex_nl]
   exact ⟨fun h => h, fun n h => (by cases h), fun k n h => (by cases h)⟩
  by_cases h2 : c = 32 ∨ c = 9 ∨ c = 13
  ·rw [lex_blank _ h1 h2, lex_blank _ h1 h2]
   exact ⟨fun h => h, fun n h _ => .inl h, fun k n h => (by cases h)⟩
  by_cases h3 : c = 47 ∧ (y ++ v).head? = some 47
  ·rw [lex_remark h1 h2 h3]
   refine ⟨fun h => (by cases h), fun n h hn => ?_, fun k n h => (by cases h)⟩
   injection h with h
   have hy : y ≠ [] := by
    rintro rfl
    have e2 : span_ noNl (c :: ([] ++ v)) = span_ noNl ([] ++ v) + 1 := span_cons (by rw [h3.1]; decide)
    have e3 : 1 ≤ span_ noNl ([] ++ v) := by
     obtain ⟨_, hh⟩ := h3
     cases v with
     | nil => cases hh
     | cons b r =>
      have hb : b = 47 := by simpa using hh
      subst hb
      rw [List.nil_append, span_cons (by decide)]; omega
    simp at hn; omega
   have h3' : c = 47 ∧ (y ++ v').head? = some 47 := ⟨h3.1, by rw [head_app hy]; rw [head_app hy] at h3; exact h3.2⟩
   rw [lex_remark h1 h2 h3']
   rw [← List.cons_append] at h
   rw [← List.cons_append]
   by_cases hlt : n < (c :: y).length
   ·left
    rw [span_app] at h
    rw [span_app]
    by_cases hf : span_ noNl (c :: y) = (c :: y).length
    ·rw [if_pos hf] at h; omega
    ·rw [if_neg hf] at h ⊢; rw [h]
   ·right
    have hl := span_le noNl (c :: y)
    rw [span_app] at h
    rw [span_app]
    by_cases hf : span_ noNl (c :: y) = (c :: y).length
    ·rw [if_pos hf] at h ⊢
     exact ⟨by omega, by rw [show (c :: y).length = n by omega], by omega⟩
    ·rw [if_neg hf] at h; omega
  have h3' : ¬ (c = 47 ∧ (y ++ v').head? = some 47) := by
   rintro ⟨e1, e2⟩
   by_cases hy : y = []
   ·subst hy
    rcases hs with rfl | ⟨r, rfl⟩
    ·cases e2
    ·revert e2; simp
   ·rw [head_app hy] at e2
    exact h3 ⟨e1, by rw [head_app hy]; exact e2⟩
  cases h4 : letterB c with
  | true =>
   rw [lex_name h1 h2 h3 h4, lex_name h1 h2 h3' h4, ← List.cons_append, ← List.cons_append]
   refine ⟨fun h => ?_, fun n h => ?_, fun k n h hn => ?_⟩
   ·split at h <;> cases h
   ·split at h <;> cases h
   ·split at h
    ·cases h
    ·rename_i hh
     injection h with ha hb
     have hloc := (span_loc (v' := v') (by rw [hb]; exact hn) (soft_word hs)).1
     rw [hloc, if_neg hh, hb, List.take_append_of_le_length hn]
     rw [hb, List.take_append_of_le_length hn] at ha
     rw [ha]
  | false =>
   cases h5 : digitB c with
   | true =>
    rw [lex_number h1 h2 h3 h4 h5, lex_number h1 h2 h3' h4 h5, ← List.cons_append, ← List.cons_append]
    refine ⟨fun h => ?_, fun n h => ?_, fun k n h hn => ?_⟩
    ·split at h <;> cases h
    ·split at h <;> cases h
    ·split at h
     ·rename_i hh
      injection h with ha hb
      have hloc := (span_loc (v' := v') (by rw [hb]; exact hn) (soft_word hs)).1
      rw [hb, List.take_append_of_le_length hn] at hh
      rw [hloc, hb, List.take_append_of_le_length hn, if_pos hh, ha]
     ·cases h
   | false =>
    by_cases h6 : c = 34
    ·subst h6
     rw [lex_text, lex_text]
     cases ht : txtLen (y ++ v) with
     | none => exact ⟨fun h => (by cases h), fun n h => (by cases h), fun k n h => (by cases h)⟩
     | some j =>
      dsimp only
      refine ⟨fun h => ?_, fun n h => ?_, fun k n h hn => ?_⟩
      ·split at h <;> cases h
      ·split at h <;> cases h
      ·split at h
       ·rename_i ho
        injection h with ha hb
        have hj : j < y.length := by simp at hn; omega
        rw [List.take_append_of_le_length (by omega)] at ho
        rw [txt_loc _ y v v' j (Nat.le_refl _) ht hj]
        dsimp only
        rw [List.take_append_of_le_length (by omega), if_pos ho, ha, hb]
       ·cases h
    ·by_cases h7 : c = 59
     ·subst h7
      rw [lex_semi, lex_semi]
      exact ⟨fun h => h, fun n h => (by cases h), fun k n h _ => h⟩
     ·rw [lex_sign h1 h2 h3 h4 h5 h6 h7, lex_sign h1 h2 h3' h4 h5 h6 h7, ← List.cons_append, ← List.cons_append]
      refine ⟨fun h => ?_, fun n h => ?_, fun k n h hn => ?_⟩
      ·split at h <;> cases h
      ·split at h <;> cases h
      ·split at h
       ·cases h
       ·rename_i hh
        injection h with ha hb
        have hloc := sign_loc (v := v) (v' := v') hx hs (by rw [hb]; exact hn)
        rw [hloc, if_neg hh, ha, hb]
end Go.Proofs.Ytcjgagmcnmmfoaa

namespace Go.Proofs.Ytcjgagmcnmmfoaa.Pa
open Go.RowKit

theorem lex_cases {l : Bs} {k : Int} {n : Nat} (h : lex l = .tok k n) : (k = 1 → n ≤ 16) ∧ (k = 2 → ∃ b r, l = b :: r ∧ digitB b = true ∧ NumP (l.take n)) ∧
  (k = 3 → ∃ r m, l = 34 :: r ∧ txtLen r = some m ∧ okText (r.take m) = true ∧ n = m + 2) := by
 cases l with
 | nil => cases h
 | cons b r =>
  unfold lex at h
  dsimp only at h
  split at h
  ·cases h
  split at h
  ·cases h
  split at h
  ·cases h
  split at h
  ·split at h
   ·cases h
   ·injection h with h1 h2
    subst h2
    refine ⟨fun _ => by omega, fun hk => ?_, fun hk => ?_⟩ <;> (rw [← h1] at hk; split at hk <;> exact absurd hk (by decide))
  split at h
  ·split at h
   ·rename_i hd hn
    injection h with h1 h2
    subst h2
    subst h1
    exact ⟨fun hk => absurd hk (by decide), fun _ => ⟨b, r, rfl, hd, hn⟩, fun hk => absurd hk (by decide)⟩
   ·cases h
  split at h
  ·rename_i hb
   subst hb
   split at h
   ·cases h
   ·rename_i m hm
    split at h
    ·rename_i ho
     injection h with h1 h2
     subst h1
     exact ⟨fun hk => absurd hk (by decide), fun hk => absurd hk (by decide), fun _ => ⟨r, m, rfl, hm, ho, h2.symm⟩⟩
    ·cases h
  split at h
  ·injection h with h1 h2
   subst h1
   exact ⟨fun hk => absurd hk (by decide), fun hk => absurd hk (by decide), fun hk => absurd hk (by decide)⟩
  split at h
  ·cases h
  ·injection h with h1 h2
   subst h1
   exact ⟨fun hk => absurd hk (by decide), fun hk => absurd hk (by decide), fun hk => absurd hk (by decide)⟩
theorem itoa_nonneg {v : Int} {b : UInt8} {r : Bs} (hb : digitB b = true) (h : Lib.itoa v = b :: r) : 0 ≤ v := by
 rcases Int.lt_or_le v 0 with h0 | h0
 ·exfalso
  have : Lib.itoa v = 45 :: Lib.decDigits v.natAbs := by simp [Lib.itoa, h0]
  rw [this] at h
  injection h with h1 h2
  subst h1
  exact absurd hb (by decide)
 ·exact h0
theorem take_mid (p s : Bs) : (p ++ 34 :: s).take (p.length + 1) = p ++ [34] := by rw [List.take_append, List.take_of_length_le (Nat.le_succ _)]; simp
theorem tk_ok {S : ByteArray} {a n : Nat} {k : Int} (ha : a < S.size) (h : lex (restOf S a) = .tok k n) : TkOk (k, S.extract a (a + n)) := by
 have hne : restOf S a ≠ [] := by rw [rest_cons ha]; exact List.cons_ne_nil _ _
 have hl := (lex_len hne).2.1 k n h
 have hlen : n ≤ (restOf S a).length := hl.2.1
 have ht := ext_rest S a n
 have hz : (S.extract a (a + n)).size = n := by rw [← Ty.size_len, ht, List.length_take]; omega
 obtain ⟨c1, c2, c3⟩ := lex_cases h
 have hx : (restOf S a).take n ≠ [] := by
  intro e
  have := congrArg List.length e
  rw [List.length_take, List.length_nil] at this; omega
 have hs : lex ((restOf S a).take n) = .tok k n := by
  have := (lex_loc (x := (restOf S a).take n) (v := (restOf S a).drop n) (v' := []) hx (.inl rfl)).2.2 k n (by rw [List.take_append_drop]; exact h) (by rw [List.length_take]; omega)
  simpa using this
 refine ⟨fun hk => ?_, fun hk => ?_, fun hk => ?_⟩
 ·have hk : k = 1 := hk
  subst hk
  exact ⟨by rw [hz]; exact c1 rfl, by rw [hz, ht]; exact hs⟩
 ·obtain ⟨b, r, e, hd, v, h1, h2, h3⟩ := c2 hk
  show 0 ≤ (readO (S.extract a (a + n)).data.toList).getD 0
  rw [ht, ← h3, readO_itoa v ⟨h1, h2⟩]
  have e2 : (b :: r).take n = b :: r.take (n - 1) := by
   obtain ⟨m, rfl⟩ : ∃ m, n = m + 1 := ⟨n - 1, by omega⟩
   rfl
  exact itoa_nonneg hd (h3.trans ((congrArg (List.take n) e).trans e2))
 ·obtain ⟨r, m, e, hm, ho, rfl⟩ := c3 hk
  obtain ⟨_, s, hr⟩ := text_nonl hm ho
  have hml : m < r.length := txtLen_le r.length r m (Nat.le_refl _) hm
  have e2 : (S.extract a (a + (m + 2))) = ⟨(34 :: (r.take m ++ [34])).toArray⟩ := by
   apply ByteArray.ext
   apply Array.toList_inj.1
   rw [ht, e]
   show 34 :: r.take (m + 1) = _
   have : r.take (m + 1) = r.take m ++ [34] := by
    have e3 : r.take (m + 1) = (r.take m ++ 34 :: s).take ((r.take m).length + 1) := by
     rw [← hr, List.length_take, Nat.min_eq_left (by omega)]
    exact e3.trans (take_mid _ _)
   rw [this]
  unfold okText at ho
  split at ho
  ·cases ho
  ·rename_i o hq
   have ho : o.length ≤ 200 := by simpa using ho
   show QtOk (sayOf (S.extract a (a + (m + 2))))
   rw [e2]
   unfold sayOf
   rw [unqO_mk hq ho]
   exact ⟨by simpa [ByteArray.size] using ho, by simpa using (escs_unq _ _ _ (Nat.le_refl _) hq).1⟩
theorem tk6 (t : ByteArray) : TkOk (6, t) := ⟨fun h => absurd (show (6 : Int) = 1 from h) (by decide), fun h => absurd (show (6 : Int) = 2 from h) (by decide), fun h => absurd (show (6 : Int) = 3 from h) (by decide)⟩
theorem lineEnd_tks {c c' : CutM} (h : lineEndM c = .ok c') (hc : ∀ t ∈ c.out, TkOk (tkOf t)) : ∀ t ∈ c'.out, TkOk (tkOf t) := by
 rcases lineEndM_ok h with rfl | h
 ·exact hc
 ·obtain ⟨_, rfl⟩ := putM_ok h
  intro t ht
  rcases List.mem_append.1 ht with h1 | h1
  ·exact hc t h1
  ·rw [List.mem_singleton.1 h1]; exact tk6 _
theorem runs_tks {S : ByteArray} {c : CutM} {r : Except Err (List TokenM)} (h : Runs S c r) : (∀ t ∈ c.out, TkOk (tkOf t)) → ∀ l, r = .ok l → ∀ t ∈ l, TkOk (tkOf t) := by
 induction h with
 | @fin c hf =>
  intro hc l hl
  split at hl
  ·injection hl with hl
   subst hl
   exact lineEnd_tks ‹_› hc
  ·cases hl
 | @step c c' r h1 h2 h3 ih =>
  intro hc l hl
  refine ih ?_ l hl
  unfold stepM at h2
  split at h2
  ·split at h2
   ·rename_i c1 he
    injection h2 with h2
    subst h2
    intro t ht
    exact lineEnd_tks he hc t ht
   ·cases h2
  ·injection h2 with h2
   subst h2
   exact hc
  ·rename_i k n hn
   obtain ⟨_, rfl⟩ := putM_ok h2
   intro t ht
   rcases List.mem_append.1 ht with g | g
   ·exact hc t g
   ·rw [List.mem_singleton.1 g]; exact tk_ok h1 hn
  ·cases h2
 | bad h1 h2 => intro _ l hl; cases hl
theorem toks_tks {S : ByteArray} {lt : List TokenM} (h : ToksM S (.ok lt)) : TksOk (lt.map tkOf) := by
 unfold ToksM at h
 split at h
 ·cases h
 ·intro t ht
  obtain ⟨x, hx, rfl⟩ := List.mem_map.1 ht
  exact runs_tks h (fun t ht => by cases ht) lt rfl x hx
def Fns (l : List T) : Prop := (∀ t ∈ l, GT t) ∧ ∀ t ∈ l, kindT t = 2
theorem yld_files : ∀ f ks l, Fns ks → TksOk l → Yld Fns (filesF f ks l)
 | 0, _, [], _, _ => by rw [filesF]; exact trivial
 | 0, _, t :: r, _, _ => by rw [filesF]; exact trivial
 | f + 1, ks, [], hk, hl => by rw [filesF]; exact ⟨hk, hl⟩
 | f + 1, ks, t :: r, hk, hl => by
  rw [filesF]
  split
  ·exact yld_files f ks r hk hl.tail
  ·refine (yld_want _ hl).bind fun _ r _ hr => (yld_name hr).bind fun s r hs hr => ((yld_all f).fun_ 2 s _ (.inl ⟨rfl, hs⟩) hr).bind fun a r2 ha hr2 => ?_
   split
   ·exact yld_files f _ _ ⟨all_snoc hk.1 ha.1, all_snoc hk.2 ha.2⟩ hr2
   ·exact trivial
theorem parse_good {S : ByteArray} {lt : List TokenM} {t : T} (h : ToksM S (.ok lt)) (hp : parseM (lt.map tkOf) = .ok t) : GT t ∧ kindT t = 1 := by
 unfold parseM at hp
 split at hp
 ·cases hp
 ·split at hp
  ·rename_i t' ht
   injection hp with hp
   subst hp
   unfold treeM at ht
   have hy := yld_files (8 * (lt.map tkOf).length + 8) [] _ ⟨fun t h => (by cases h), fun t h => (by cases h)⟩ (toks_tks h)
   split at ht
   ·rename_i ks r hks
    injection ht with ht
    subst ht
    rw [hks] at hy
    exact ⟨.file ks hy.1.1 hy.1.2, rfl⟩
   ·cases ht
  ·cases hp
end Go.Proofs.Ytcjgagmcnmmfoaa.Pa

namespace Go.Proofs.Ytcjgagmcnmmfoaa.Pa
open Go.RowKit

noncomputable def runF (S : ByteArray) : Nat → CutM → Option (List TokenM)
 | 0, _ => none
 | n + 1, c => if S.size ≤ c.pos then (match lineEndM c with | .ok c => some c.out | .error _ => none) else match stepM S c with | .ok c => runF S n c | .error _ => none
theorem runF_runs {S : ByteArray} : ∀ (n : Nat) (c : CutM) (l : List TokenM), runF S n c = some l → Runs S c (.ok l)
 | 0, _, _, h => by cases h
 | n + 1, c, l, h => by
  rw [runF] at h
  split at h
  ·rename_i hs
   have hf := Runs.fin (S := S) (c := c) hs
   cases hq : lineEndM c with
   | ok c2 =>
    rw [hq] at h hf
    injection h with h
    subst h
    exact hf
   | error e => rw [hq] at h; cases h
  ·rename_i hs
   cases hq : stepM S c with
   | ok c2 =>
    rw [hq] at h
    exact .step (by omega) hq (runF_runs n c2 l h)
   | error e => rw [hq] at h; cases h
def oneSrc : Bs := [102, 117, 110, 99, 32, 109, 97, 105, 110, 40, 41, 32, 123, 32, 100, 101, 102, 101, 114, 32, 102, 40, 41, 32, 125]
noncomputable def oneTree : Option T := match runF (sB oneSrc) 60 cut0 with
 | some lt => (match parseM (lt.map tkOf) with | .ok t => some t | .error _ => none)
 | none => none
def oneOk (t : T) : Bool := match plansOf (flatP 0 t) with
 | [p] => p.sites.length == 1
 | _ => false
theorem one_all : (match oneTree with | some t => oneOk t | none => false) = true := by decide +kernel
theorem one_at : ∃ lt t, ToksM (sB oneSrc) (.ok lt) ∧ parseM (lt.map tkOf) = .ok t ∧ oneOk t = true := by
 have h := one_all
 unfold oneTree at h
 cases hr : runF (sB oneSrc) 60 cut0 with
 | none => rw [hr] at h; simp at h
 | some lt =>
  rw [hr] at h
  simp only at h
  cases hp : parseM (lt.map tkOf) with
  | error e => rw [hp] at h; simp at h
  | ok t =>
   rw [hp] at h
   refine ⟨lt, t, ?_, hp, h⟩
   unfold ToksM
   rw [if_neg]
   ·exact runF_runs _ _ _ hr
   ·simp [sB, oneSrc, ByteArray.size]
theorem parO_rd {w : World} {base : Nat} {v : Value} {t : T} (h : ParO w base v t) : RdL CeNode 5 w v (flat 0 t) := by
 obtain ⟨ps, h1, h2, _, _⟩ := h
 rw [← h2]
 have h3 : RdL (fun w cs (p : GNode) => CeNode w cs p.1) 5 w v ps := (OwnL.rd h1).mono fun _ _ h => h.ce
 obtain ⟨A, c, g1, g2, g3⟩ := h3
 refine ⟨A, c, by rw [List.length_map]; exact g1, by rw [List.length_map]; exact g2, fun i a hi => ?_⟩
 rw [List.getElem?_map] at hi
 cases hp : ps[i]? with
 | none => rw [hp] at hi; cases hi
 | some p =>
  rw [hp] at hi
  injection hi with hi
  subst hi
  exact g3 i p hp
structure Tre (t : T) : Prop where
 gt : GT t
 kind : kindT t = 1
 size : sizeT t ≤ 4000
theorem parse_tre (w : World) (S : ByteArray) (hs : S.size ≤ 140737488351232) : Calls Try.prog 4 #[.string S] w fun e w' => (∃ v c x y, e = .returned (.tuple #[v, .agg #[.int .i64 c, .int .i64 x, .int .i64 y]]) ∧ (c ≠ 0 ∧ v = .slice none 0 0 ∨ c = 0 ∧ ∃ t, Tre t ∧ ParO w' w.heap.size v t)) ∧ Kp w w' := by
 refine (parse_any w S hs).mono ?_
 rintro e w' ⟨h | ⟨lt, h1, h⟩, hk⟩
 ·obtain ⟨er, h1, h2, h3, h4⟩ := h
  exact ⟨⟨_, _, _, _, h4, .inl ⟨by omega, rfl⟩⟩, hk⟩
 ·rcases h with ⟨c, h2, h3⟩ | ⟨t, v, h2, h3, h4⟩
  ·refine ⟨⟨_, _, _, _, h3, .inl ⟨?_, rfl⟩⟩, hk⟩
   unfold parseM at h2
   split at h2
   ·injection h2 with h2; omega
   ·split at h2
    ·cases h2
    ·injection h2 with h2; omega
  ·obtain ⟨g1, g2⟩ := parse_good h1 h2
   exact ⟨⟨_, _, _, _, h3, .inr ⟨rfl, t, ⟨g1, g2, parse_size h1 h2⟩, h4⟩⟩, hk⟩
theorem one_tre : ∃ t, Tre t ∧ oneOk t = true ∧ ∀ w, Calls Try.prog 4 #[.string (sB oneSrc)] w fun e w' => (∃ v, e = .returned (.tuple #[v, .agg #[.int .i64 0, .int .i64 0, .int .i64 0]]) ∧ ParO w' w.heap.size v t) ∧ Kp w w' := by
 obtain ⟨lt, t, h1, h2, h3⟩ := one_at
 obtain ⟨g1, g2⟩ := parse_good h1 h2
 exact ⟨t, ⟨g1, g2, parse_size h1 h2⟩, h3, fun w => parse_hit w _ h1 h2⟩
theorem Tre.good {w : World} {v : Value} {t : T} (h : Tre t) (hT : RdL CeNode 5 w v (flat 0 t)) : ∀ u, Kp w u → Calls Try.prog 11 #[v] u fun e u' => e = .returned (.bool true) ∧ Kp u u' := fun u hu => good_any (hT.kp CeNode.kp hu) h.size h.gt h.kind
end Go.Proofs.Ytcjgagmcnmmfoaa.Pa

