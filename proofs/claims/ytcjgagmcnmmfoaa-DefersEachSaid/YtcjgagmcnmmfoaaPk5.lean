/-
  Parts of the proof of a law: Ndk, Ndn, UpP, Upw, Shd, ScanT, Toks. No condition.
-/
import Derived.Recover
import Derived.Defers
import Derived.Test.YtcjgagmcnmmfoaaPk2
import Derived.Test.YtcjgagmcnmmfoaaPk3
import Derived.Test.YtcjgagmcnmmfoaaPk4
set_option maxRecDepth 20000
set_option maxHeartbeats 16000000
set_option linter.unusedVariables false
set_option linter.unusedSimpArgs false
namespace Go.Proofs.Ytcjgagmcnmmfoaa.Pa
open Go.RowKit

def Sub (L : List NodeM) (b : Nat) (l : List NodeM) : Prop := ∀ (i : Nat) (m : NodeM), l[i]? = some m → L[b + i]? = some m
theorem Sub.left {L l m : List NodeM} {b : Nat} (h : Sub L b (l ++ m)) : Sub L b l := fun i x hx => h i x (by rw [List.getElem?_append_left (List.getElem?_eq_some_iff.1 hx).1]; exact hx)
theorem Sub.right {L l m : List NodeM} {b : Nat} (h : Sub L b (l ++ m)) : Sub L (b + l.length) m := fun i x hx => by
 have := h (l.length + i) x (by rw [List.getElem?_append_right (by omega)]; simpa using hx)
 rwa [← Nat.add_assoc] at this
theorem split_at {ks : List T} {i : Nat} {t : T} (h : ks[i]? = some t) : ks = ks.take i ++ t :: ks.drop (i + 1) := by
 obtain ⟨hi, rfl⟩ := List.getElem?_eq_some_iff.1 h
 simp
theorem sub_kid {L : List NodeM} {b i : Nat} {ks : List T} {t : T} (h : Sub L b (flatL b ks)) (ht : ks[i]? = some t) : Sub L (b + sizeL (ks.take i)) (flat (b + sizeL (ks.take i)) t) := by
 have e := split_at ht
 have h2 : Sub L b (flatL b (ks.take i ++ t :: ks.drop (i + 1))) := by rw [← e]; exact h
 rw [flatL_app, flatL] at h2
 have h3 := h2.right
 rw [flatL_len] at h3
 exact h3.left
theorem size_take {ks : List T} {i : Nat} {t : T} (h : ks[i]? = some t) : sizeL (ks.take (i + 1)) = sizeL (ks.take i) + sizeT t := by
 have e : ks.take (i + 1) = ks.take i ++ [t] := by rw [List.take_add_one, h]; rfl
 rw [e, sizeL_app]; simp [sizeL]
theorem size_le {ks : List T} {i : Nat} {t : T} (h : ks[i]? = some t) : sizeT t ≤ sizeL ks := by
 have e := congrArg sizeL (split_at h)
 rw [sizeL_app] at e
 simp only [sizeL] at e
 omega
theorem roots_get {b i : Nat} {ks : List T} {t : T} (h : ks[i]? = some t) : (rootsL b ks)[i]? = some ((rootT (b + sizeL (ks.take i)) t : Nat) : Int) := by
 have e : rootsL b ks = rootsL b (ks.take i ++ t :: ks.drop (i + 1)) := by rw [← split_at h]
 have hi := (List.getElem?_eq_some_iff.1 h).1
 have hl : (rootsL b (ks.take i)).length = i := by rw [rootsL_len]; simp; omega
 rw [e, rootsL_app, rootsL, List.getElem?_append_right (by omega), hl, Nat.sub_self]
 rfl
theorem flat_root (b : Nat) (t : T) : ∃ m, (flat b t)[sizeT t - 1]? = some m ∧ m.kind = kindT t := by
 cases t with
 | node k s y n ks =>
  refine ⟨⟨k, s, y, n, rootsL b ks⟩, ?_, rfl⟩
  rw [flat, List.getElem?_append_right (by rw [flatL_len]; simp [sizeT]), flatL_len]
  simp [sizeT]
theorem root_at {L : List NodeM} {b : Nat} {t : T} (h : Sub L b (flat b t)) : ∃ m, L[rootT b t]? = some m ∧ m.kind = kindT t := by
 obtain ⟨m, h1, h2⟩ := flat_root b t
 have h3 := h _ m h1
 have h4 := rootT_eq b t
 have h5 := sizeT_pos t
 exact ⟨m, by rw [show rootT b t = b + (sizeT t - 1) by omega]; exact h3, h2⟩

structure CoS (w0 : World) (cp : Nat) (v : Value) (nx : Nat) (w : World) : Prop where
 kp : Kp w0 w
 cg : w0.heap.size ≤ cp
 box : w.heap[cp]? = some (.cells #[v, .int .i64 (nx : Int)] 75 (0, 0))
section
variable {w0 w w' : World} {cp nx : Nat} {v : Value}
theorem CoS.keep (h : CoS w0 cp v nx w) (hk : Kp w w') : CoS w0 cp v nx w' := ⟨h.kp.trans hk, h.cg, (hk.block _ (blk_lt h.box)).trans h.box⟩
theorem CoS.set (h : CoS w0 cp v nx w) (n : Nat) : CoS w0 cp v n (w.setCell ⟨cp, 1, none⟩ (.int .i64 (n : Int))) :=
 ⟨h.kp.setCell (p := ⟨cp, 1, none⟩) h.cg _, h.cg, blk_set (o := 1) h.box _⟩
theorem CoS.fit (h : CoS w0 cp v nx w) (hg : w.grownBy w' (some cp)) {g : Value} {f : Fit} (hf : FnV w g f) : FnV w' g f := by
 cases f with
 | only k =>
  obtain ⟨p, e, hp⟩ := hf
  refine ⟨p, e, grown_blk hg hp (fun e2 => ?_)⟩
  injection e2 with e2
  subst e2
  rw [h.box] at hp
  injection hp with hp; injection hp with _ hp; exact absurd hp (by decide)
 | _ => exact hf
end
theorem grown_kp2 {a b c : World} {row : Option Nat} (h : a.grownBy b row) (k : Kp b c) : a.grownBy c row := h.trans (grown_kp k row)
def NodeC (w0 : World) (cp : Nat) (v : Value) (b : Nat) (t : T) : Prop := ∀ u, CoS w0 cp v b u → Calls Try.prog 40 #[.pointer (some ⟨cp, 0, none⟩), .int .i64 ((rootT b t : Nat) : Int)] u fun e u' => e = .returned (.bool true) ∧ CoS w0 cp v (b + sizeT t) u' ∧ u.grownBy u' (some cp)
theorem kid_expr {L : List NodeM} {w0 u : World} {cp b : Nat} {v : Value} {t : T} (hT : RdL CeNode 5 w0 v L) (hL : L.length ≤ 4000) (hsub : Sub L b (flat b t)) (hn : NodeC w0 cp v b t) (hf : isExpr (kindT t)) (h : CoS w0 cp v b u) :
  Calls Try.prog 52 #[.pointer (some ⟨cp, 0, none⟩), .int .i64 ((rootT b t : Nat) : Int), .func (.func 64) #[] #[]] u fun e u' => e = .returned (.bool true) ∧ CoS w0 cp v (b + sizeT t) u' ∧ u.grownBy u' (some cp) := by
 obtain ⟨m, hm, hk⟩ := root_at hsub
 have HN := hid (hn u h)
 have HS := hid h
 have hT' := hT.kp CeNode.kp h.kp
 obtain ⟨A, c, rfl, _⟩ := hT.form
 obtain ⟨bt, off, rfl, hbt, lk, g0, g1, g2, g3, g4, _⟩ := at_node hT' hm
 rw [hk] at g0
 have i1 : ((rootT b t : Nat) : Int) < (L.length : Int) := by have := (List.getElem?_eq_some_iff.1 hm).1; omega
 have i2 : ¬ ((L.length : Nat) : Int) ≤ ((rootT b t : Nat) : Int) := by omega
 have i3 : ¬ ((rootT b t : Nat) : Int) < 0 := by omega
 have q0 := blk_cell (o := 0) h.box rfl
 clear g1 g2 g3 g4 h hn hsub hT hT' hm hk
 generalize rootT b t = r at HN i1 i2 i3 g0 ⊢
 generalize kindT t = K at g0 hf ⊢
 go_enter Try.func52, Try.ntmps52
 go_wp2_with (first | (go_at_call 40; go_must (refine HN.out.mono ?_); rintro e w1 ⟨rfl, hs1, hg1⟩) | (go_at_call 64; go_must (refine (wexpr_yes hf _).mono ?_); rintro e w1 ⟨rfl, rfl⟩))
 go_ret
 exact ⟨rfl, hs1, hg1⟩
theorem kid_stated {L : List NodeM} {w0 u : World} {cp b : Nat} {v : Value} {t : T} (hT : RdL CeNode 5 w0 v L) (hL : L.length ≤ 4000) (hsub : Sub L b (flat b t)) (hn : NodeC w0 cp v b t) (hf : 5 ≤ kindT t ∧ kindT t ≤ 15) (h : CoS w0 cp v b u) :
  Calls Try.prog 52 #[.pointer (some ⟨cp, 0, none⟩), .int .i64 ((rootT b t : Nat) : Int), .func (.func 67) #[] #[]] u fun e u' => e = .returned (.bool true) ∧ CoS w0 cp v (b + sizeT t) u' ∧ u.grownBy u' (some cp) := by
 obtain ⟨m, hm, hk⟩ := root_at hsub
 have HN := hid (hn u h)
 have HS := hid h
 have hT' := hT.kp CeNode.kp h.kp
 obtain ⟨A, c, rfl, _⟩ := hT.form
 obtain ⟨bt, off, rfl, hbt, lk, g0, g1, g2, g3, g4, _⟩ := at_node hT' hm
 rw [hk] at g0
 have i1 : ((rootT b t : Nat) : Int) < (L.length : Int) := by have := (List.getElem?_eq_some_iff.1 hm).1; omega
 have i2 : ¬ ((L.length : Nat) : Int) ≤ ((rootT b t : Nat) : Int) := by omega
 have i3 : ¬ ((rootT b t : Nat) : Int) < 0 := by omega
 have q0 := blk_cell (o := 0) h.box rfl
 clear g1 g2 g3 g4 h hn hsub hT hT' hm hk
 generalize rootT b t = r at HN i1 i2 i3 g0 ⊢
 generalize kindT t = K at g0 hf ⊢
 go_enter Try.func52, Try.ntmps52
 go_wp2_with (first | (go_at_call 40; go_must (refine HN.out.mono ?_); rintro e w1 ⟨rfl, hs1, hg1⟩) | (go_at_call 67; go_must (refine (stated_yes hf.1 hf.2 _).mono ?_); rintro e w1 ⟨rfl, rfl⟩))
 go_ret
 exact ⟨rfl, hs1, hg1⟩
theorem kid_orn {L : List NodeM} {w0 u : World} {cp b : Nat} {v : Value} {t : T} (hT : RdL CeNode 5 w0 v L) (hL : L.length ≤ 4000) (hsub : Sub L b (flat b t)) (hn : NodeC w0 cp v b t) (hf : isExpr (kindT t) ∨ kindT t = 31) (h : CoS w0 cp v b u) :
  Calls Try.prog 52 #[.pointer (some ⟨cp, 0, none⟩), .int .i64 ((rootT b t : Nat) : Int), .func (.func 69) #[] #[]] u fun e u' => e = .returned (.bool true) ∧ CoS w0 cp v (b + sizeT t) u' ∧ u.grownBy u' (some cp) := by
 obtain ⟨m, hm, hk⟩ := root_at hsub
 have HN := hid (hn u h)
 have HS := hid h
 have hT' := hT.kp CeNode.kp h.kp
 obtain ⟨A, c, rfl, _⟩ := hT.form
 obtain ⟨bt, off, rfl, hbt, lk, g0, g1, g2, g3, g4, _⟩ := at_node hT' hm
 rw [hk] at g0
 have i1 : ((rootT b t : Nat) : Int) < (L.length : Int) := by have := (List.getElem?_eq_some_iff.1 hm).1; omega
 have i2 : ¬ ((L.length : Nat) : Int) ≤ ((rootT b t : Nat) : Int) := by omega
 have i3 : ¬ ((rootT b t : Nat) : Int) < 0 := by omega
 have q0 := blk_cell (o := 0) h.box rfl
 clear g1 g2 g3 g4 h hn hsub hT hT' hm hk
 generalize rootT b t = r at HN i1 i2 i3 g0 ⊢
 generalize kindT t = K at g0 hf ⊢
 go_enter Try.func52, Try.ntmps52
 go_wp2_with (first | (go_at_call 40; go_must (refine HN.out.mono ?_); rintro e w1 ⟨rfl, hs1, hg1⟩) | (go_at_call 69; go_must (refine (orn_yes hf _).mono ?_); rintro e w1 ⟨rfl, rfl⟩))
 go_ret
 exact ⟨rfl, hs1, hg1⟩
theorem kid_blif {L : List NodeM} {w0 u : World} {cp b : Nat} {v : Value} {t : T} (hT : RdL CeNode 5 w0 v L) (hL : L.length ≤ 4000) (hsub : Sub L b (flat b t)) (hn : NodeC w0 cp v b t) (hf : kindT t = 5 ∨ kindT t = 10) (h : CoS w0 cp v b u) :
  Calls Try.prog 52 #[.pointer (some ⟨cp, 0, none⟩), .int .i64 ((rootT b t : Nat) : Int), .func (.func 68) #[] #[]] u fun e u' => e = .returned (.bool true) ∧ CoS w0 cp v (b + sizeT t) u' ∧ u.grownBy u' (some cp) := by
 obtain ⟨m, hm, hk⟩ := root_at hsub
 have HN := hid (hn u h)
 have HS := hid h
 have hT' := hT.kp CeNode.kp h.kp
 obtain ⟨A, c, rfl, _⟩ := hT.form
 obtain ⟨bt, off, rfl, hbt, lk, g0, g1, g2, g3, g4, _⟩ := at_node hT' hm
 rw [hk] at g0
 have i1 : ((rootT b t : Nat) : Int) < (L.length : Int) := by have := (List.getElem?_eq_some_iff.1 hm).1; omega
 have i2 : ¬ ((L.length : Nat) : Int) ≤ ((rootT b t : Nat) : Int) := by omega
 have i3 : ¬ ((rootT b t : Nat) : Int) < 0 := by omega
 have q0 := blk_cell (o := 0) h.box rfl
 clear g1 g2 g3 g4 h hn hsub hT hT' hm hk
 generalize rootT b t = r at HN i1 i2 i3 g0 ⊢
 generalize kindT t = K at g0 hf ⊢
 go_enter Try.func52, Try.ntmps52
 go_wp2_with (first | (go_at_call 40; go_must (refine HN.out.mono ?_); rintro e w1 ⟨rfl, hs1, hg1⟩) | (go_at_call 68; go_must (refine (blif_yes hf _).mono ?_); rintro e w1 ⟨rfl, rfl⟩))
 go_ret
 exact ⟨rfl, hs1, hg1⟩
theorem kid_only {L : List NodeM} {w0 u : World} {cp b : Nat} {v : Value} {t : T} {pb : Nat} (hT : RdL CeNode 5 w0 v L) (hL : L.length ≤ 4000) (hsub : Sub L b (flat b t)) (hn : NodeC w0 cp v b t) (hf : u.heap[pb]? = some (.cells #[.int .i64 (kindT t)] 3 (0, 0))) (h : CoS w0 cp v b u) :
  Calls Try.prog 52 #[.pointer (some ⟨cp, 0, none⟩), .int .i64 ((rootT b t : Nat) : Int), .func (.func 73) #[] #[.pointer (some ⟨pb, 0, none⟩)]] u fun e u' => e = .returned (.bool true) ∧ CoS w0 cp v (b + sizeT t) u' ∧ u.grownBy u' (some cp) := by
 obtain ⟨m, hm, hk⟩ := root_at hsub
 have HN := hid (hn u h)
 have HS := hid h
 have hT' := hT.kp CeNode.kp h.kp
 obtain ⟨A, c, rfl, _⟩ := hT.form
 obtain ⟨bt, off, rfl, hbt, lk, g0, g1, g2, g3, g4, _⟩ := at_node hT' hm
 rw [hk] at g0
 have i1 : ((rootT b t : Nat) : Int) < (L.length : Int) := by have := (List.getElem?_eq_some_iff.1 hm).1; omega
 have i2 : ¬ ((L.length : Nat) : Int) ≤ ((rootT b t : Nat) : Int) := by omega
 have i3 : ¬ ((rootT b t : Nat) : Int) < 0 := by omega
 have q0 := blk_cell (o := 0) h.box rfl
 clear g1 g2 g3 g4 h hn hsub hT hT' hm hk
 generalize rootT b t = r at HN i1 i2 i3 g0 ⊢
 generalize kindT t = K at g0 hf ⊢
 have HP := hid hf
 clear hf
 go_enter Try.func52, Try.ntmps52
 go_wp2_with (first | (go_at_call 40; go_must (refine HN.out.mono ?_); rintro e w1 ⟨rfl, hs1, hg1⟩) | (go_at_call 73; go_must (refine (only1_yes (HP.out)).mono ?_); rintro e w1 ⟨rfl, rfl⟩))
 go_ret
 exact ⟨rfl, hs1, hg1⟩
theorem kid_any {L : List NodeM} {w0 u : World} {cp b : Nat} {v g : Value} {t : T} {f : Fit} (hT : RdL CeNode 5 w0 v L) (hL : L.length ≤ 4000) (hsub : Sub L b (flat b t)) (hn : NodeC w0 cp v b t) (hf : FnV u g f) (hfit : f.fits (kindT t)) (h : CoS w0 cp v b u) :
  Calls Try.prog 52 #[.pointer (some ⟨cp, 0, none⟩), .int .i64 ((rootT b t : Nat) : Int), g] u fun e u' => e = .returned (.bool true) ∧ CoS w0 cp v (b + sizeT t) u' ∧ u.grownBy u' (some cp) := by
 cases f with
 | expr => rw [show g = _ from hf]; exact kid_expr hT hL hsub hn hfit h
 | stated => rw [show g = _ from hf]; exact kid_stated hT hL hsub hn hfit h
 | orn => rw [show g = _ from hf]; exact kid_orn hT hL hsub hn hfit h
 | blif => rw [show g = _ from hf]; exact kid_blif hT hL hsub hn hfit h
 | only m =>
  obtain ⟨p, rfl, hp⟩ := hf
  have hfit : kindT t = m := hfit
  subst hfit
  exact kid_only hT hL hsub hn hp h
end Go.Proofs.Ytcjgagmcnmmfoaa.Pa

namespace Go.Proofs.Ytcjgagmcnmmfoaa.Pa
open Go.RowKit

structure NdS (L : List NodeM) (w0 : World) (v : Value) (b : Nat) (k n : Int) (s ty : ByteArray) (ks : List T) : Prop where
 tree : RdL CeNode 5 w0 v L
 len : L.length ≤ 4000
 sub : Sub L b (flatL b ks)
 root : L[b + sizeL ks]? = some ⟨k, s, ty, n, rootsL b ks⟩
 ok : NodeOk k n ks
structure NdL (w0 : World) (cp : Nat) (v : Value) (b : Nat) (fs : List Fit) (ks : List T) (np : Nat) (cs : Array Value) (B : Nat) (Al : Option Addr) (cl : Nat) (bk : List Int) (Ak : Option Addr) (ck : Nat) (w1 : World) : Prop where
 co : CoS w0 cp v b w1
 kids : KidsOk fs ks
 box : w1.heap[np]? = some (.cells cs 37 (0, 0))
 want : OwnL CeFit 1 76 w1 B (.slice Al fs.length cl) fs
 B : cp < B
 roots : RdInts w0 (.slice Ak ks.length ck) (rootsL b ks)
 len : ks.length ≤ 4000
section
variable {w0 w1 wr : World} {cp b np B cl ck i : Nat} {v : Value} {fs : List Fit} {ks : List T} {cs : Array Value} {Al Ak : Option Addr} {bk : List Int}
theorem NdL.np_ne (h : NdL w0 cp v b fs ks np cs B Al cl bk Ak ck w1) : some np ≠ some cp := by
 intro e
 injection e with e
 subst e
 have := h.box
 rw [h.co.box] at this
 injection this with this; injection this with _ this; exact absurd this (by decide)
theorem NdL.box_at (h : NdL w0 cp v b fs ks np cs B Al cl bk Ak ck w1) (hg : w1.grownBy wr (some cp)) : wr.heap[np]? = some (.cells cs 37 (0, 0)) := grown_blk hg h.box h.np_ne
theorem NdL.at_ (h : NdL w0 cp v b fs ks np cs B Al cl bk Ak ck w1) (hg : w1.grownBy wr (some cp)) {n : Nat} (hc : CoS w0 cp v n wr) (hi : i < fs.length) : ∃ f t bl ol g kb ko, fs[i]? = some f ∧ ks[i]? = some t ∧ f.fits (kindT t) ∧ Al = some ⟨bl, ol, none⟩ ∧ wr.cell? ⟨bl, ol + i, none⟩ = some g ∧ FnV wr g f ∧ Ak = some ⟨kb, ko, none⟩ ∧ wr.cell? ⟨kb, ko + i, none⟩ = some (.int .i64 ((rootT (b + sizeL (ks.take i)) t : Nat) : Int)) ∧ bl < wr.heap.size := by
 have hf := List.getElem?_eq_getElem hi
 have hi2 : i < ks.length := by rw [← h.kids.len]; exact hi
 have ht := List.getElem?_eq_getElem hi2
 obtain ⟨bl, ol, ce, e1, hbl, ⟨g, rfl, hfn⟩, _, hcell⟩ := h.want.rd.at_ hf
 have hown := h.want
 obtain ⟨xs, hown, _⟩ := hown
 have hne : some bl ≠ some cp := by
  intro e
  injection e with e
  subst e
  subst e1
  rcases hown.2 with ⟨h1, _⟩ | ⟨g', cap, cur, h1, hB, _⟩
  ·cases h1
  ·injection h1 with h1 _ _; injection h1 with h1; injection h1 with h1 _ _; have := h.B; omega
 have hcw : ∃ ob, w1.heap[bl]? = some ob := ⟨_, Array.getElem?_eq_getElem hbl⟩
 obtain ⟨ob, hob⟩ := hcw
 have hob2 := grown_blk hg hob hne
 have hcl := hcell 0 (by omega)
 have hcl2 : wr.cell? ⟨bl, ol + i, none⟩ = some g := by
  have e0 : wr.cell? ⟨bl, ol + i, none⟩ = w1.cell? ⟨bl, ol + i, none⟩ := by simp [World.cell?, hob, hob2]
  rw [e0]
  simpa using hcl
 obtain ⟨r1, r2, A', c', e2, r3, r4⟩ := h.roots.kp hc.kp
 obtain ⟨kb, ko, e3, r5, r6⟩ := r4 (by rw [rootsL_len]; omega)
 injection e2 with e2 _ _
 subst e2
 refine ⟨_, _, bl, ol, g, kb, ko, hf, ht, h.kids.fit i _ _ hf ht, e1, hcl2, h.co.fit hg hfn, e3, ?_, blk_lt hob2⟩
 have := r6 i (by rw [rootsL_len]; omega)
 rw [this]
 rw [List.getD_eq_getElem?_getD, roots_get ht]
 rfl
end
theorem take_all {fs : List Fit} {ks : List T} (h : KidsOk fs ks) : sizeL (ks.take fs.length) = sizeL ks := by rw [h.len, List.take_length]
theorem node_plain {L : List NodeM} {w0 : World} {cp b : Nat} {v : Value} {k n : Int} {s ty : ByteArray} {ks : List T} (h23 : k ≠ 23) (h2 : k ≠ 2) (h33 : k ≠ 33) (H : NdS L w0 v b k n s ty ks) (hkid : ∀ (i : Nat) (t : T), ks[i]? = some t → NodeC w0 cp v (b + sizeL (ks.take i)) t) : NodeC w0 cp v b (.node k s ty n ks) := by
 intro u h
 have HN := hid H; have HKI := hid hkid
 have HS := hid h
 obtain ⟨A, c, rfl, _⟩ := H.tree.form
 obtain ⟨bt, off, rfl, hbt, lk, g0, g1, g2, g3, g4, o0, o1, o2, o3, rk0, _⟩ := at_node H.tree H.root
 obtain ⟨fs, hw, hks⟩ := H.ok.wants
 have g0 := cell_kp h.kp hbt g0
 have g1 := cell_kp h.kp hbt g1
 have g2 := cell_kp h.kp hbt g2
 have g3 := cell_kp h.kp hbt g3
 have g4 := cell_kp h.kp hbt g4
 have HW := hid hw; have HK := hid hks
 obtain ⟨Ak, ck, hlk⟩ := rk0.form
 rw [rootsL_len] at hlk
 subst hlk
 have HRK := hid rk0
 have hlen : ks.length ≤ 4000 := by
  have h1 := (List.getElem?_eq_some_iff.1 H.root).1
  have h2 := sizeL_ge ks
  have h3 := H.len
  omega
 have HLK := hid hlen
 have i1 : (((b + sizeL ks : Nat)) : Int) < (L.length : Int) := by have := (List.getElem?_eq_some_iff.1 H.root).1; omega
 have q0 := blk_cell (o := 0) h.box rfl
 have a1 : (k == 23) = false := beq_eq_false_iff_ne.2 h23
 have a2 : (k == 2) = false := beq_eq_false_iff_ne.2 h2
 have a3 : (k == 33) = false := beq_eq_false_iff_ne.2 h33
 have HA := hid (And.intro a1 (And.intro a2 a3))
 clear h23 h2 h33 a1 a2 a3
 dsimp only at g0 g1 g2 g3 g4
 show Calls _ _ #[_, .int .i64 ((b + sizeL ks : Nat) : Int)] _ _
 rw [show sizeT (.node k s ty n ks) = sizeL ks + 1 from rfl]
 clear hw hks rk0 H h hkid o0 o1 o2 o3 hlen
 obtain ⟨r, hr⟩ : ∃ r, b + sizeL ks = r := ⟨_, rfl⟩
 have HR := hid hr
 rw [hr] at i1 g0 g1 g2 g3 g4 ⊢
 have HI1 := hid i1
 rw [show b + (sizeL ks + 1) = r + 1 by omega]
 clear hr
 go_enter Try.func40, Try.ntmps40
 go_upto_region 2 with fail
 have hnp := blk_new u (.cells #[.int .i64 k, .string s, .string ty, .int .i64 n, .slice Ak ks.length ck] 37)
 have HS1 := hid (HS.out.keep ((Kp.refl u).alloc (.cells #[.int .i64 k, .string s, .string ty, .int .i64 n, .slice Ak ks.length ck] 37)))
 have HG0 := hid (grown_kp ((Kp.refl u).alloc (.cells #[.int .i64 k, .string s, .string ty, .int .i64 n, .slice Ak ks.length ck] 37)) (some cp))
 generalize u.alloc _ = W at hnp HS1 HG0 ⊢
 generalize u.heap.size = np at hnp ⊢
 have n0 := blk_cell (o := 0) hnp rfl
 have n1 := blk_cell (o := 1) hnp rfl
 have n2 := blk_cell (o := 2) hnp rfl
 have n3 := blk_cell (o := 3) hnp rfl
 have n4 := blk_cell (o := 4) hnp rfl
 have HNP := hid hnp
 clear g0 g1 g2 g3 g4 q0 i1 hnp
 go_upto_region 3 with (go_at_call 51; go_must (refine (HW.out _ _ _ _ _).mono ?_); rintro e w1 ⟨⟨lv, rfl, hl⟩, hk1⟩)
 obtain ⟨xs0, hl0, _⟩ := id hl
 obtain ⟨Al, cl, rfl⟩ := own_form hl0
 have HB := hid (show NdL w0 cp (.slice (some ⟨bt, off, none⟩) L.length c) b fs ks np #[.int .i64 k, .string s, .string ty, .int .i64 n, .slice Ak ks.length ck] W.heap.size Al cl [] Ak ck w1 from ⟨HS1.out.keep hk1, HK.out, (hk1.block _ (blk_lt HNP.out)).trans HNP.out, hl, blk_lt HS1.out.box, HRK.out, HLK.out⟩)
 have HG1 := hid (grown_kp2 HG0.out hk1)
 clear n0 n1 n2 n3 n4 hl hl0 hk1 HG0 HS1 HNP HW
 have n0 := blk_cell (o := 0) HB.out.box rfl
 have n3 := blk_cell (o := 3) HB.out.box rfl
 have n4 := blk_cell (o := 4) HB.out.box rfl
 obtain ⟨a1, a2, a3⟩ := HA.out
 go_upto_region 7 with fail
 clear n0 n3 n4 a1 a2 a3
 go_wp2_with fail
 go_loopw [58] (fun x wr => ∃ i : Nat, i ≤ fs.length ∧ x = .int .i64 (i : Int) ∧ CoS w0 cp (.slice (some ⟨bt, off, none⟩) L.length c) (b + sizeL (ks.take i)) wr ∧ w1.grownBy wr (some cp)) (fun x _ => fs.length - (intOf x).toNat)
 case atStart => exact ⟨0, Nat.zero_le _, rfl, by have h := HB.out.co; simpa [sizeL] using h, World.grownBy.refl _ _⟩
 case round =>
  obtain ⟨i, hi, rfl, hc, hgr⟩ := hrel
  have HC := hid hc; have HGR := hid hgr
  by_cases hl : i < fs.length
  ·have i2 : (i : Int) < (fs.length : Int) := by omega
   obtain ⟨f, t, bl, ol, g, kb, ko, hf, ht, hfit, rfl, c1, hfn, rfl, c2, hbl⟩ := HB.out.at_ hgr hc hl
   have c3 := blk_cell (o := 4) (HB.out.box_at hgr) rfl
   have i3 : (i : Int) < (ks.length : Int) := by have := HK.out.len; omega
   have HCALL := hid (kid_any HN.out.tree HN.out.len (sub_kid HN.out.sub ht) (HKI.out i t ht) hfn hfit hc)
   have HT := hid ht
   have HL := hid hl
   have k1 : IntKind.i64.wrap ((i : Int) + 1) = ((i + 1 : Nat) : Int) := by rw [IntKind.wrap_i64]; have := HLK.out; omega
   obtain ⟨q, hq⟩ : ∃ q, rootT (b + sizeL (ks.take i)) t = q := ⟨_, rfl⟩
   rw [hq] at HCALL c2
   clear hc hgr hi hl hf hfit hfn ht hq
   go_wp2_with (go_at_call 52; go_must (refine HCALL.out.mono ?_); rintro e w3 ⟨rfl, hs3, hg3⟩)
   refine ⟨⟨i + 1, HL.out, rfl, by rw [size_take HT.out, ← Nat.add_assoc]; exact hs3, HGR.out.trans hg3⟩, ?_⟩
   exact meas_up HL.out
  ·have i2 : ¬ (i : Int) < (fs.length : Int) := by omega
   obtain rfl : i = fs.length := by omega
   have hcr : CoS w0 cp (.slice (some ⟨bt, off, none⟩) L.length c) r wr := by have h := HC.out; rw [take_all HK.out, HR.out] at h; exact h
   have HCR := hid hcr
   have q1 := blk_cell (o := 1) hcr.box rfl
   have qf := blk_free (o := 1) hcr.box
   have hbp := blk_lt hcr.box
   have k1 : IntKind.i64.wrap ((r : Int) + 1) = ((r + 1 : Nat) : Int) := by rw [IntKind.wrap_i64]; have := HI1.out; have := HN.out.len; omega
   clear hi hl hc hgr hcr
   go_wp2
   go_ret
   exact ⟨rfl, HCR.out.set (r + 1), (HG1.out.trans HGR.out).trans (grown_setCell _)⟩
theorem node_flag {L : List NodeM} {w0 : World} {cp b : Nat} {v : Value} {k n : Int} {s ty : ByteArray} {ks : List T} (h23 : k = 23) (hn : n = 0 ∨ n = 1) (H : NdS L w0 v b k n s ty ks) (hkid : ∀ (i : Nat) (t : T), ks[i]? = some t → NodeC w0 cp v (b + sizeL (ks.take i)) t) : NodeC w0 cp v b (.node k s ty n ks) := by
 intro u h
 have HN := hid H; have HKI := hid hkid
 have HS := hid h
 obtain ⟨A, c, rfl, _⟩ := H.tree.form
 obtain ⟨bt, off, rfl, hbt, lk, g0, g1, g2, g3, g4, o0, o1, o2, o3, rk0, _⟩ := at_node H.tree H.root
 obtain ⟨fs, hw, hks⟩ := H.ok.wants
 have g0 := cell_kp h.kp hbt g0
 have g1 := cell_kp h.kp hbt g1
 have g2 := cell_kp h.kp hbt g2
 have g3 := cell_kp h.kp hbt g3
 have g4 := cell_kp h.kp hbt g4
 have HW := hid hw; have HK := hid hks
 obtain ⟨Ak, ck, hlk⟩ := rk0.form
 rw [rootsL_len] at hlk
 subst hlk
 have HRK := hid rk0
 have hlen : ks.length ≤ 4000 := by
  have h1 := (List.getElem?_eq_some_iff.1 H.root).1
  have h2 := sizeL_ge ks
  have h3 := H.len
  omega
 have HLK := hid hlen
 have i1 : (((b + sizeL ks : Nat)) : Int) < (L.length : Int) := by have := (List.getElem?_eq_some_iff.1 H.root).1; omega
 have q0 := blk_cell (o := 0) h.box rfl
 have a1 : (k == 23) = true := by rw [h23]; rfl
 have a2 : (k == 2) = false := by rw [h23]; rfl
 have a3 : (k == 33) = false := by rw [h23]; rfl
 have a4 : ¬ n < 0 := by omega
 have a5 : ¬ 1 < n := by omega
 have HA := hid (And.intro a1 (And.intro a2 (And.intro a3 (And.intro a4 a5))))
 clear h23 hn a1 a2 a3 a4 a5
 dsimp only at g0 g1 g2 g3 g4
 show Calls _ _ #[_, .int .i64 ((b + sizeL ks : Nat) : Int)] _ _
 rw [show sizeT (.node k s ty n ks) = sizeL ks + 1 from rfl]
 clear hw hks rk0 H h hkid o0 o1 o2 o3 hlen
 obtain ⟨r, hr⟩ : ∃ r, b + sizeL ks = r := ⟨_, rfl⟩
 have HR := hid hr
 rw [hr] at i1 g0 g1 g2 g3 g4 ⊢
 have HI1 := hid i1
 rw [show b + (sizeL ks + 1) = r + 1 by omega]
 clear hr
 go_enter Try.func40, Try.ntmps40
 go_upto_region 2 with fail
 have hnp := blk_new u (.cells #[.int .i64 k, .string s, .string ty, .int .i64 n, .slice Ak ks.length ck] 37)
 have HS1 := hid (HS.out.keep ((Kp.refl u).alloc (.cells #[.int .i64 k, .string s, .string ty, .int .i64 n, .slice Ak ks.length ck] 37)))
 have HG0 := hid (grown_kp ((Kp.refl u).alloc (.cells #[.int .i64 k, .string s, .string ty, .int .i64 n, .slice Ak ks.length ck] 37)) (some cp))
 generalize u.alloc _ = W at hnp HS1 HG0 ⊢
 generalize u.heap.size = np at hnp ⊢
 have n0 := blk_cell (o := 0) hnp rfl
 have n1 := blk_cell (o := 1) hnp rfl
 have n2 := blk_cell (o := 2) hnp rfl
 have n3 := blk_cell (o := 3) hnp rfl
 have n4 := blk_cell (o := 4) hnp rfl
 have HNP := hid hnp
 clear g0 g1 g2 g3 g4 q0 i1 hnp
 go_upto_region 3 with (go_at_call 51; go_must (refine (HW.out _ _ _ _ _).mono ?_); rintro e w1 ⟨⟨lv, rfl, hl⟩, hk1⟩)
 obtain ⟨xs0, hl0, _⟩ := id hl
 obtain ⟨Al, cl, rfl⟩ := own_form hl0
 have HB := hid (show NdL w0 cp (.slice (some ⟨bt, off, none⟩) L.length c) b fs ks np #[.int .i64 k, .string s, .string ty, .int .i64 n, .slice Ak ks.length ck] W.heap.size Al cl [] Ak ck w1 from ⟨HS1.out.keep hk1, HK.out, (hk1.block _ (blk_lt HNP.out)).trans HNP.out, hl, blk_lt HS1.out.box, HRK.out, HLK.out⟩)
 have HG1 := hid (grown_kp2 HG0.out hk1)
 clear n0 n1 n2 n3 n4 hl hl0 hk1 HG0 HS1 HNP HW
 have n0 := blk_cell (o := 0) HB.out.box rfl
 have n3 := blk_cell (o := 3) HB.out.box rfl
 have n4 := blk_cell (o := 4) HB.out.box rfl
 obtain ⟨a1, a2, a3, a4, a5⟩ := HA.out
 go_upto_region 7 with fail
 clear n0 n3 n4 a1 a2 a3 a4 a5
 go_wp2_with fail
 go_loopw [58] (fun x wr => ∃ i : Nat, i ≤ fs.length ∧ x = .int .i64 (i : Int) ∧ CoS w0 cp (.slice (some ⟨bt, off, none⟩) L.length c) (b + sizeL (ks.take i)) wr ∧ w1.grownBy wr (some cp)) (fun x _ => fs.length - (intOf x).toNat)
 case atStart => exact ⟨0, Nat.zero_le _, rfl, by have h := HB.out.co; simpa [sizeL] using h, World.grownBy.refl _ _⟩
 case round =>
  obtain ⟨i, hi, rfl, hc, hgr⟩ := hrel
  have HC := hid hc; have HGR := hid hgr
  by_cases hl : i < fs.length
  ·have i2 : (i : Int) < (fs.length : Int) := by omega
   obtain ⟨f, t, bl, ol, g, kb, ko, hf, ht, hfit, rfl, c1, hfn, rfl, c2, hbl⟩ := HB.out.at_ hgr hc hl
   have c3 := blk_cell (o := 4) (HB.out.box_at hgr) rfl
   have i3 : (i : Int) < (ks.length : Int) := by have := HK.out.len; omega
   have HCALL := hid (kid_any HN.out.tree HN.out.len (sub_kid HN.out.sub ht) (HKI.out i t ht) hfn hfit hc)
   have HT := hid ht
   have HL := hid hl
   have k1 : IntKind.i64.wrap ((i : Int) + 1) = ((i + 1 : Nat) : Int) := by rw [IntKind.wrap_i64]; have := HLK.out; omega
   obtain ⟨q, hq⟩ : ∃ q, rootT (b + sizeL (ks.take i)) t = q := ⟨_, rfl⟩
   rw [hq] at HCALL c2
   clear hc hgr hi hl hf hfit hfn ht hq
   go_wp2_with (go_at_call 52; go_must (refine HCALL.out.mono ?_); rintro e w3 ⟨rfl, hs3, hg3⟩)
   refine ⟨⟨i + 1, HL.out, rfl, by rw [size_take HT.out, ← Nat.add_assoc]; exact hs3, HGR.out.trans hg3⟩, ?_⟩
   exact meas_up HL.out
  ·have i2 : ¬ (i : Int) < (fs.length : Int) := by omega
   obtain rfl : i = fs.length := by omega
   have hcr : CoS w0 cp (.slice (some ⟨bt, off, none⟩) L.length c) r wr := by have h := HC.out; rw [take_all HK.out, HR.out] at h; exact h
   have HCR := hid hcr
   have q1 := blk_cell (o := 1) hcr.box rfl
   have qf := blk_free (o := 1) hcr.box
   have hbp := blk_lt hcr.box
   have k1 : IntKind.i64.wrap ((r : Int) + 1) = ((r + 1 : Nat) : Int) := by rw [IntKind.wrap_i64]; have := HI1.out; have := HN.out.len; omega
   clear hi hl hc hgr hcr
   go_wp2
   go_ret
   exact ⟨rfl, HCR.out.set (r + 1), (HG1.out.trans HGR.out).trans (grown_setCell _)⟩
theorem node_fun {L : List NodeM} {w0 : World} {cp b : Nat} {v : Value} {k n : Int} {s ty : ByteArray} {ks : List T} (hk : k = 2) (hn : n = (ks.length : Int) - 2) (H : NdS L w0 v b k n s ty ks) (hkid : ∀ (i : Nat) (t : T), ks[i]? = some t → NodeC w0 cp v (b + sizeL (ks.take i)) t) : NodeC w0 cp v b (.node k s ty n ks) := by
 intro u h
 have HN := hid H; have HKI := hid hkid
 have HS := hid h
 obtain ⟨A, c, rfl, _⟩ := H.tree.form
 obtain ⟨bt, off, rfl, hbt, lk, g0, g1, g2, g3, g4, o0, o1, o2, o3, rk0, _⟩ := at_node H.tree H.root
 obtain ⟨fs, hw, hks⟩ := H.ok.wants
 have g0 := cell_kp h.kp hbt g0
 have g1 := cell_kp h.kp hbt g1
 have g2 := cell_kp h.kp hbt g2
 have g3 := cell_kp h.kp hbt g3
 have g4 := cell_kp h.kp hbt g4
 have HW := hid hw; have HK := hid hks
 obtain ⟨Ak, ck, hlk⟩ := rk0.form
 rw [rootsL_len] at hlk
 subst hlk
 have HRK := hid rk0
 have hlen : ks.length ≤ 4000 := by
  have h1 := (List.getElem?_eq_some_iff.1 H.root).1
  have h2 := sizeL_ge ks
  have h3 := H.len
  omega
 have HLK := hid hlen
 have i1 : (((b + sizeL ks : Nat)) : Int) < (L.length : Int) := by have := (List.getElem?_eq_some_iff.1 H.root).1; omega
 have q0 := blk_cell (o := 0) h.box rfl
 have a1 : (k == 23) = false := by rw [hk]; rfl
 have a2 : (k == 2) = true := by rw [hk]; rfl
 have a3 : (k == 33) = false := by rw [hk]; rfl
 have a4 : IntKind.i64.wrap ((ks.length : Int) - 2) = n := by rw [IntKind.wrap_i64]; omega
 have HA := hid (And.intro a1 (And.intro a2 (And.intro a3 a4)))
 clear hk hn a1 a2 a3 a4
 dsimp only at g0 g1 g2 g3 g4
 show Calls _ _ #[_, .int .i64 ((b + sizeL ks : Nat) : Int)] _ _
 rw [show sizeT (.node k s ty n ks) = sizeL ks + 1 from rfl]
 clear hw hks rk0 H h hkid o0 o1 o2 o3 hlen
 obtain ⟨r, hr⟩ : ∃ r, b + sizeL ks = r := ⟨_, rfl⟩
 have HR := hid hr
 rw [hr] at i1 g0 g1 g2 g3 g4 ⊢
 have HI1 := hid i1
 rw [show b + (sizeL ks + 1) = r + 1 by omega]
 clear hr
 go_enter Try.func40, Try.ntmps40
 go_upto_region 2 with fail
 have hnp := blk_new u (.cells #[.int .i64 k, .string s, .string ty, .int .i64 n, .slice Ak ks.length ck] 37)
 have HS1 := hid (HS.out.keep ((Kp.refl u).alloc (.cells #[.int .i64 k, .string s, .string ty, .int .i64 n, .slice Ak ks.length ck] 37)))
 have HG0 := hid (grown_kp ((Kp.refl u).alloc (.cells #[.int .i64 k, .string s, .string ty, .int .i64 n, .slice Ak ks.length ck] 37)) (some cp))
 generalize u.alloc _ = W at hnp HS1 HG0 ⊢
 generalize u.heap.size = np at hnp ⊢
 have n0 := blk_cell (o := 0) hnp rfl
 have n1 := blk_cell (o := 1) hnp rfl
 have n2 := blk_cell (o := 2) hnp rfl
 have n3 := blk_cell (o := 3) hnp rfl
 have n4 := blk_cell (o := 4) hnp rfl
 have HNP := hid hnp
 clear g0 g1 g2 g3 g4 q0 i1 hnp
 go_upto_region 3 with (go_at_call 51; go_must (refine (HW.out _ _ _ _ _).mono ?_); rintro e w1 ⟨⟨lv, rfl, hl⟩, hk1⟩)
 obtain ⟨xs0, hl0, _⟩ := id hl
 obtain ⟨Al, cl, rfl⟩ := own_form hl0
 have HB := hid (show NdL w0 cp (.slice (some ⟨bt, off, none⟩) L.length c) b fs ks np #[.int .i64 k, .string s, .string ty, .int .i64 n, .slice Ak ks.length ck] W.heap.size Al cl [] Ak ck w1 from ⟨HS1.out.keep hk1, HK.out, (hk1.block _ (blk_lt HNP.out)).trans HNP.out, hl, blk_lt HS1.out.box, HRK.out, HLK.out⟩)
 have HG1 := hid (grown_kp2 HG0.out hk1)
 clear n0 n1 n2 n3 n4 hl hl0 hk1 HG0 HS1 HNP HW
 have n0 := blk_cell (o := 0) HB.out.box rfl
 have n3 := blk_cell (o := 3) HB.out.box rfl
 have n4 := blk_cell (o := 4) HB.out.box rfl
 obtain ⟨a1, a2, a3, a4⟩ := HA.out
 go_upto_region 7 with fail
 clear n0 n3 n4 a1 a2 a3 a4
 go_wp2_with fail
 go_loopw [58] (fun x wr => ∃ i : Nat, i ≤ fs.length ∧ x = .int .i64 (i : Int) ∧ CoS w0 cp (.slice (some ⟨bt, off, none⟩) L.length c) (b + sizeL (ks.take i)) wr ∧ w1.grownBy wr (some cp)) (fun x _ => fs.length - (intOf x).toNat)
 case atStart => exact ⟨0, Nat.zero_le _, rfl, by have h := HB.out.co; simpa [sizeL] using h, World.grownBy.refl _ _⟩
 case round =>
  obtain ⟨i, hi, rfl, hc, hgr⟩ := hrel
  have HC := hid hc; have HGR := hid hgr
  by_cases hl : i < fs.length
  ·have i2 : (i : Int) < (fs.length : Int) := by omega
   obtain ⟨f, t, bl, ol, g, kb, ko, hf, ht, hfit, rfl, c1, hfn, rfl, c2, hbl⟩ := HB.out.at_ hgr hc hl
   have c3 := blk_cell (o := 4) (HB.out.box_at hgr) rfl
   have i3 : (i : Int) < (ks.length : Int) := by have := HK.out.len; omega
   have HCALL := hid (kid_any HN.out.tree HN.out.len (sub_kid HN.out.sub ht) (HKI.out i t ht) hfn hfit hc)
   have HT := hid ht
   have HL := hid hl
   have k1 : IntKind.i64.wrap ((i : Int) + 1) = ((i + 1 : Nat) : Int) := by rw [IntKind.wrap_i64]; have := HLK.out; omega
   obtain ⟨q, hq⟩ : ∃ q, rootT (b + sizeL (ks.take i)) t = q := ⟨_, rfl⟩
   rw [hq] at HCALL c2
   clear hc hgr hi hl hf hfit hfn ht hq
   go_wp2_with (go_at_call 52; go_must (refine HCALL.out.mono ?_); rintro e w3 ⟨rfl, hs3, hg3⟩)
   refine ⟨⟨i + 1, HL.out, rfl, by rw [size_take HT.out, ← Nat.add_assoc]; exact hs3, HGR.out.trans hg3⟩, ?_⟩
   exact meas_up HL.out
  ·have i2 : ¬ (i : Int) < (fs.length : Int) := by omega
   obtain rfl : i = fs.length := by omega
   have hcr : CoS w0 cp (.slice (some ⟨bt, off, none⟩) L.length c) r wr := by have h := HC.out; rw [take_all HK.out, HR.out] at h; exact h
   have HCR := hid hcr
   have q1 := blk_cell (o := 1) hcr.box rfl
   have qf := blk_free (o := 1) hcr.box
   have hbp := blk_lt hcr.box
   have k1 : IntKind.i64.wrap ((r : Int) + 1) = ((r + 1 : Nat) : Int) := by rw [IntKind.wrap_i64]; have := HI1.out; have := HN.out.len; omega
   clear hi hl hc hgr hcr
   go_wp2
   go_ret
   exact ⟨rfl, HCR.out.set (r + 1), (HG1.out.trans HGR.out).trans (grown_setCell _)⟩
theorem node_lit {L : List NodeM} {w0 : World} {cp b : Nat} {v : Value} {k n : Int} {s ty : ByteArray} {ks : List T} (hk : k = 33) (hn : n = (ks.length : Int) - 2) (H : NdS L w0 v b k n s ty ks) (hkid : ∀ (i : Nat) (t : T), ks[i]? = some t → NodeC w0 cp v (b + sizeL (ks.take i)) t) : NodeC w0 cp v b (.node k s ty n ks) := by
 intro u h
 have HN := hid H; have HKI := hid hkid
 have HS := hid h
 obtain ⟨A, c, rfl, _⟩ := H.tree.form
 obtain ⟨bt, off, rfl, hbt, lk, g0, g1, g2, g3, g4, o0, o1, o2, o3, rk0, _⟩ := at_node H.tree H.root
 obtain ⟨fs, hw, hks⟩ := H.ok.wants
 have g0 := cell_kp h.kp hbt g0
 have g1 := cell_kp h.kp hbt g1
 have g2 := cell_kp h.kp hbt g2
 have g3 := cell_kp h.kp hbt g3
 have g4 := cell_kp h.kp hbt g4
 have HW := hid hw; have HK := hid hks
 obtain ⟨Ak, ck, hlk⟩ := rk0.form
 rw [rootsL_len] at hlk
 subst hlk
 have HRK := hid rk0
 have hlen : ks.length ≤ 4000 := by
  have h1 := (List.getElem?_eq_some_iff.1 H.root).1
  have h2 := sizeL_ge ks
  have h3 := H.len
  omega
 have HLK := hid hlen
 have i1 : (((b + sizeL ks : Nat)) : Int) < (L.length : Int) := by have := (List.getElem?_eq_some_iff.1 H.root).1; omega
 have q0 := blk_cell (o := 0) h.box rfl
 have a1 : (k == 23) = false := by rw [hk]; rfl
 have a2 : (k == 2) = false := by rw [hk]; rfl
 have a3 : (k == 33) = true := by rw [hk]; rfl
 have a4 : IntKind.i64.wrap ((ks.length : Int) - 2) = n := by rw [IntKind.wrap_i64]; omega
 have HA := hid (And.intro a1 (And.intro a2 (And.intro a3 a4)))
 clear hk hn a1 a2 a3 a4
 dsimp only at g0 g1 g2 g3 g4
 show Calls _ _ #[_, .int .i64 ((b + sizeL ks : Nat) : Int)] _ _
 rw [show sizeT (.node k s ty n ks) = sizeL ks + 1 from rfl]
 clear hw hks rk0 H h hkid o0 o1 o2 o3 hlen
 obtain ⟨r, hr⟩ : ∃ r, b + sizeL ks = r := ⟨_, rfl⟩
 have HR := hid hr
 rw [hr] at i1 g0 g1 g2 g3 g4 ⊢
 have HI1 := hid i1
 rw [show b + (sizeL ks + 1) = r + 1 by omega]
 clear hr
 go_enter Try.func40, Try.ntmps40
 go_upto_region 2 with fail
 have hnp := blk_new u (.cells #[.int .i64 k, .string s, .string ty, .int .i64 n, .slice Ak ks.length ck] 37)
 have HS1 := hid (HS.out.keep ((Kp.refl u).alloc (.cells #[.int .i64 k, .string s, .string ty, .int .i64 n, .slice Ak ks.length ck] 37)))
 have HG0 := hid (grown_kp ((Kp.refl u).alloc (.cells #[.int .i64 k, .string s, .string ty, .int .i64 n, .slice Ak ks.length ck] 37)) (some cp))
 generalize u.alloc _ = W at hnp HS1 HG0 ⊢
 generalize u.heap.size = np at hnp ⊢
 have n0 := blk_cell (o := 0) hnp rfl
 have n1 := blk_cell (o := 1) hnp rfl
 have n2 := blk_cell (o := 2) hnp rfl
 have n3 := blk_cell (o := 3) hnp rfl
 have n4 := blk_cell (o := 4) hnp rfl
 have HNP := hid hnp
 clear g0 g1 g2 g3 g4 q0 i1 hnp
 go_upto_region 3 with (go_at_call 51; go_must (refine (HW.out _ _ _ _ _).mono ?_); rintro e w1 ⟨⟨lv, rfl, hl⟩, hk1⟩)
 obtain ⟨xs0, hl0, _⟩ := id hl
 obtain ⟨Al, cl, rfl⟩ := own_form hl0
 have HB := hid (show NdL w0 cp (.slice (some ⟨bt, off, none⟩) L.length c) b fs ks np #[.int .i64 k, .string s, .string ty, .int .i64 n, .slice Ak ks.length ck] W.heap.size Al cl [] Ak ck w1 from ⟨HS1.out.keep hk1, HK.out, (hk1.block _ (blk_lt HNP.out)).trans HNP.out, hl, blk_lt HS1.out.box, HRK.out, HLK.out⟩)
 have HG1 := hid (grown_kp2 HG0.out hk1)
 clear n0 n1 n2 n3 n4 hl hl0 hk1 HG0 HS1 HNP HW
 have n0 := blk_cell (o := 0) HB.out.box rfl
 have n3 := blk_cell (o := 3) HB.out.box rfl
 have n4 := blk_cell (o := 4) HB.out.box rfl
 obtain ⟨a1, a2, a3, a4⟩ := HA.out
 go_upto_region 7 with fail
 clear n0 n3 n4 a1 a2 a3 a4
 go_wp2_with fail
 go_loopw [58] (fun x wr => ∃ i : Nat, i ≤ fs.length ∧ x = .int .i64 (i : Int) ∧ CoS w0 cp (.slice (some ⟨bt, off, none⟩) L.length c) (b + sizeL (ks.take i)) wr ∧ w1.grownBy wr (some cp)) (fun x _ => fs.length - (intOf x).toNat)
 case atStart => exact ⟨0, Nat.zero_le _, rfl, by have h := HB.out.co; simpa [sizeL] using h, World.grownBy.refl _ _⟩
 case round =>
  obtain ⟨i, hi, rfl, hc, hgr⟩ := hrel
  have HC := hid hc; have HGR := hid hgr
  by_cases hl : i < fs.length
  ·have i2 : (i : Int) < (fs.length : Int) := by omega
   obtain ⟨f, t, bl, ol, g, kb, ko, hf, ht, hfit, rfl, c1, hfn, rfl, c2, hbl⟩ := HB.out.at_ hgr hc hl
   have c3 := blk_cell (o := 4) (HB.out.box_at hgr) rfl
   have i3 : (i : Int) < (ks.length : Int) := by have := HK.out.len; omega
   have HCALL := hid (kid_any HN.out.tree HN.out.len (sub_kid HN.out.sub ht) (HKI.out i t ht) hfn hfit hc)
   have HT := hid ht
   have HL := hid hl
   have k1 : IntKind.i64.wrap ((i : Int) + 1) = ((i + 1 : Nat) : Int) := by rw [IntKind.wrap_i64]; have := HLK.out; omega
   obtain ⟨q, hq⟩ : ∃ q, rootT (b + sizeL (ks.take i)) t = q := ⟨_, rfl⟩
   rw [hq] at HCALL c2
   clear hc hgr hi hl hf hfit hfn ht hq
   go_wp2_with (go_at_call 52; go_must (refine HCALL.out.mono ?_); rintro e w3 ⟨rfl, hs3, hg3⟩)
   refine ⟨⟨i + 1, HL.out, rfl, by rw [size_take HT.out, ← Nat.add_assoc]; exact hs3, HGR.out.trans hg3⟩, ?_⟩
   exact meas_up HL.out
  ·have i2 : ¬ (i : Int) < (fs.length : Int) := by omega
   obtain rfl : i = fs.length := by omega
   have hcr : CoS w0 cp (.slice (some ⟨bt, off, none⟩) L.length c) r wr := by have h := HC.out; rw [take_all HK.out, HR.out] at h; exact h
   have HCR := hid hcr
   have q1 := blk_cell (o := 1) hcr.box rfl
   have qf := blk_free (o := 1) hcr.box
   have hbp := blk_lt hcr.box
   have k1 : IntKind.i64.wrap ((r : Int) + 1) = ((r + 1 : Nat) : Int) := by rw [IntKind.wrap_i64]; have := HI1.out; have := HN.out.len; omega
   clear hi hl hc hgr hcr
   go_wp2
   go_ret
   exact ⟨rfl, HCR.out.set (r + 1), (HG1.out.trans HGR.out).trans (grown_setCell _)⟩
theorem node_any {L : List NodeM} {w0 : World} {cp : Nat} {v : Value} (hT : RdL CeNode 5 w0 v L) (hL : L.length ≤ 4000) : ∀ (N : Nat) (t : T), sizeT t ≤ N → GT t → ∀ b, Sub L b (flat b t) → NodeC w0 cp v b t
 | 0, t, h, _, _, _ => absurd h (by have := sizeT_pos t; omega)
 | N + 1, .node k s ty n ks, h, hg, b, hs => by
  have hsl : sizeL ks ≤ N := by simp only [sizeT] at h; omega
  have hs1 : Sub L b (flatL b ks) := by rw [flat] at hs; exact hs.left
  have hs2 : L[b + sizeL ks]? = some ⟨k, s, ty, n, rootsL b ks⟩ := by
   rw [flat] at hs
   have := hs.right 0 _ rfl
   rwa [flatL_len] at this
  have hl : ks.length ≤ 4000 := by
   have h1 := (List.getElem?_eq_some_iff.1 hs2).1
   have h2 := sizeL_ge ks
   omega
  have hok := gt_fits hg (by omega)
  have H : NdS L w0 v b k n s ty ks := ⟨hT, hL, hs1, hs2, hok⟩
  have hkid : ∀ (i : Nat) (t : T), ks[i]? = some t → NodeC w0 cp v (b + sizeL (ks.take i)) t := fun i t ht => node_any hT hL N t (by have := size_le ht; omega) (hok.kids t (List.mem_of_getElem? ht)) _ (sub_kid hs1 ht)
  by_cases h23 : k = 23
  ·exact node_flag h23 (hok.flag h23) H hkid
  by_cases h2 : k = 2
  ·exact node_fun h2 (hok.num (.inl h2)) H hkid
  by_cases h33 : k = 33
  ·exact node_lit h33 (hok.num (.inr h33)) H hkid
  exact node_plain h23 h2 h33 H hkid
end Go.Proofs.Ytcjgagmcnmmfoaa.Pa

namespace Go.Proofs.Ytcjgagmcnmmfoaa.Pa
open Go.RowKit

def kidsOf (l : List NodeM) : List Int := l.flatMap NodeM.kids
theorem kidsOf_app (l m : List NodeM) : kidsOf (l ++ m) = kidsOf l ++ kidsOf m := by simp [kidsOf]
theorem roots_at : ∀ (b : Nat) (l : List T), ∀ k ∈ rootsL b l, (b : Int) ≤ k ∧ k < (b + sizeL l : Nat)
 | b, [], k, h => by simp [rootsL] at h
 | b, t :: r, k, h => by
  have h1 := rootT_eq b t
  have h2 := sizeT_pos t
  simp only [rootsL, List.mem_cons] at h
  rcases h with rfl | h
  ·simp only [sizeL]; omega
  ·have := roots_at (b + sizeT t) r k h
   simp only [sizeL]; omega
mutual
theorem kids_flat : ∀ (b : Nat) (t : T), (kidsOf (flat b t)).Nodup ∧ ∀ k ∈ kidsOf (flat b t), (b : Int) ≤ k ∧ k < (rootT b t : Nat)
 | b, .node k s t n ks => by
  have h := kids_flatL b ks
  have e : kidsOf (flat b (.node k s t n ks)) = kidsOf (flatL b ks) ++ rootsL b ks := by rw [flat, kidsOf_app]; simp [kidsOf]
  rw [e]
  exact h
theorem kids_flatL : ∀ (b : Nat) (l : List T), (kidsOf (flatL b l) ++ rootsL b l).Nodup ∧ ∀ k ∈ kidsOf (flatL b l) ++ rootsL b l, (b : Int) ≤ k ∧ k < (b + sizeL l : Nat)
 | b, [] => ⟨by simp [flatL, rootsL, kidsOf], by simp [flatL, rootsL, kidsOf]⟩
 | b, t :: r => by
  obtain ⟨a1, a2⟩ := kids_flat b t
  obtain ⟨b1, b2⟩ := kids_flatL (b + sizeT t) r
  have h1 := rootT_eq b t
  have h2 := sizeT_pos t
  have e : kidsOf (flatL b (t :: r)) ++ rootsL b (t :: r) = kidsOf (flat b t) ++ (kidsOf (flatL (b + sizeT t) r) ++ (rootT b t : Int) :: rootsL (b + sizeT t) r) := by
   rw [flatL, rootsL, kidsOf_app, List.append_assoc]
  rw [e]
  have hp : (kidsOf (flatL (b + sizeT t) r) ++ (rootT b t : Int) :: rootsL (b + sizeT t) r).Perm ((rootT b t : Int) :: (kidsOf (flatL (b + sizeT t) r) ++ rootsL (b + sizeT t) r)) := List.perm_middle
  constructor
  ·rw [List.nodup_append]
   refine ⟨a1, hp.nodup_iff.2 (List.nodup_cons.2 ⟨fun hm => ?_, b1⟩), fun x hx y hy e => ?_⟩
   ·have := b2 _ hm; omega
   ·subst e
    have q := a2 _ hx
    rcases List.mem_cons.1 (hp.mem_iff.1 hy) with q1 | q1
    ·omega
    ·have := b2 _ q1; omega
  ·intro k hk
   simp only [sizeL]
   rcases List.mem_append.1 hk with hk | hk
   ·have := a2 _ hk; omega
   ·rcases List.mem_cons.1 (hp.mem_iff.1 hk) with q1 | q1
    ·omega
    ·have := b2 _ q1; omega
end
mutual
theorem kid_below : ∀ (b : Nat) (t : T) (i : Nat) (m : NodeM), (flat b t)[i]? = some m → ∀ k ∈ m.kids, (b : Int) ≤ k ∧ k < (b + i : Nat)
 | b, .node k s t n ks, i, m, h => by
  rw [flat, List.getElem?_append] at h
  split at h
  ·exact kid_belowL b ks i m h
  ·rename_i hi
   have hl := flatL_len b ks
   cases hq : i - (flatL b ks).length with
   | zero =>
    rw [hq] at h; simp at h; subst h
    intro k hk
    have := roots_at b ks k hk
    omega
   | succ q => rw [hq] at h; simp at h
theorem kid_belowL : ∀ (b : Nat) (l : List T) (i : Nat) (m : NodeM), (flatL b l)[i]? = some m → ∀ k ∈ m.kids, (b : Int) ≤ k ∧ k < (b + i : Nat)
 | b, [], i, m, h => by simp [flatL] at h
 | b, t :: r, i, m, h => by
  rw [flatL, List.getElem?_append] at h
  split at h
  ·exact kid_below b t i m h
  ·rename_i hi
   have hl := flat_len b t
   intro k hk
   have := kid_belowL (b + sizeT t) r _ m h k hk
   omega
end
def UpOk (L : List NodeM) : Prop := ∀ (i : Nat) (m : NodeM), L[i]? = some m → ∀ (j : Nat) (k : Int), m.kids[j]? = some k → 0 ≤ k ∧ k < (i : Int) ∧ k ∉ kidsOf (L.take i) ++ m.kids.take j
theorem up_flat (t : T) : UpOk (flat 0 t) := by
 intro i m hi j k hj
 have hk : k ∈ m.kids := List.mem_of_getElem? hj
 have h1 := kid_below 0 t i m hi k hk
 refine ⟨by omega, by omega, fun hm => ?_⟩
 have hn := (kids_flat 0 t).1
 obtain ⟨hil, rfl⟩ := List.getElem?_eq_some_iff.1 hi
 obtain ⟨hjl, rfl⟩ := List.getElem?_eq_some_iff.1 hj
 have e1 : flat 0 t = (flat 0 t).take i ++ (flat 0 t)[i] :: (flat 0 t).drop (i + 1) := by simp
 have e2 : (flat 0 t)[i].kids = (flat 0 t)[i].kids.take j ++ (flat 0 t)[i].kids[j] :: (flat 0 t)[i].kids.drop (j + 1) := by simp
 have e5 : ∀ (P Q K D R : List Int) (x : Int), K = P ++ x :: D → Q ++ (K ++ R) = (Q ++ P) ++ x :: (D ++ R) := by intro P Q K D R x h; subst h; simp
 have e3 : kidsOf (flat 0 t) = (kidsOf ((flat 0 t).take i) ++ (flat 0 t)[i].kids.take j) ++ (flat 0 t)[i].kids[j] :: ((flat 0 t)[i].kids.drop (j + 1) ++ kidsOf ((flat 0 t).drop (i + 1))) := by
  conv => lhs; rw [e1, kidsOf_app]
  rw [show ∀ (x : NodeM) (l : List NodeM), kidsOf (x :: l) = x.kids ++ kidsOf l from fun x l => by simp [kidsOf]]
  exact e5 _ _ _ _ _ _ e2
 rw [e3, List.nodup_append] at hn
 exact hn.2.2 _ hm _ (by simp) rfl
end Go.Proofs.Ytcjgagmcnmmfoaa.Pa

namespace Go.Proofs.Ytcjgagmcnmmfoaa.Pa
open Go.RowKit

def OBl (w : World) (base : Nat) (v : Value) (bs : List Bool) : Prop := w.ownsRow base 4 1 v bs.length (bs.map Value.bool)
theorem elBool : El Try.prog 87 4 (.bool false) 1 1 := El.mk_ Try.underlying87 (by kernel_rfl) rfl (by omega)
theorem OBl.kp {w w' : World} {base : Nat} {v : Value} {bs : List Bool} (h : OBl w base v bs) (hk : Kp w w') : OBl w' base v bs := ownsRow_keep h hk
theorem OBl.at_ {w : World} {base g c j : Nat} {bs : List Bool} {b : Bool} (h : OBl w base (.slice (some ⟨g, 0, none⟩) bs.length c) bs) (hj : bs[j]? = some b) : w.cell? ⟨g, j, none⟩ = some (.bool b) ∧ w.frozen? ⟨g, j, none⟩ = false := by
 have hlt : j < bs.length := (List.getElem?_eq_some_iff.1 hj).1
 obtain ⟨h1, h2⟩ := rowAt h (j := j) (by omega)
 exact ⟨by rw [h1, List.getElem?_map, hj]; rfl, h2⟩
theorem OBl.set {w : World} {base g c j : Nat} {bs : List Bool} (h : OBl w base (.slice (some ⟨g, 0, none⟩) bs.length c) bs) (hj : j < bs.length) (b : Bool) : OBl (w.setCell ⟨g, j, none⟩ (.bool b)) base (.slice (some ⟨g, 0, none⟩) bs.length c) (bs.set j b) := by
 have := rowSet h (j := j) (by omega) (.bool b)
 unfold OBl
 rw [List.length_set, List.map_set]; exact this
theorem OBl.made (w : World) (n : Nat) (hn : n ≤ maxLen) : OBl (w.alloc (.cells (madeCells #[.bool false] n) 4)) w.heap.size (.slice (some ⟨w.heap.size, 0, none⟩) n n) (List.replicate n false) := by
 have e : madeCells #[.bool false] n = (List.replicate n (Value.bool false)).toArray := by
  apply Array.ext
  ·simp [madeCells]
  ·intro i h1 h2
   simp [madeCells, Nat.mod_one]
 rw [e]
 refine ⟨by simp, .inr ⟨w.heap.size, n, (List.replicate n (Value.bool false)).toArray, by rw [List.length_replicate], Nat.le_refl _, blk_new w _, by simp, hn, by simp, by simp⟩⟩
def markL (n : Nat) (S : List Int) : List Bool := (List.range n).map fun k : Nat => decide ((k : Int) ∈ S)
theorem markL_len (n : Nat) (S : List Int) : (markL n S).length = n := by simp [markL]
theorem markL_at {n k : Nat} {S : List Int} (h : k < n) : (markL n S)[k]? = some (decide ((k : Int) ∈ S)) := by simp [markL, h]
theorem markL_nil (n : Nat) : markL n [] = List.replicate n false := by
 apply List.ext_getElem?
 intro i
 rcases Nat.lt_or_ge i n with h | h
 ·rw [markL_at h, List.getElem?_replicate, if_pos h]; simp
 ·rw [List.getElem?_eq_none (by rw [markL_len]; exact h), List.getElem?_eq_none (by simpa using h)]
theorem markL_set {n k : Nat} {S : List Int} : (markL n S).set k true = markL n (S ++ [(k : Int)]) := by
 apply List.ext_getElem?
 intro i
 rcases Nat.lt_or_ge i n with h | h
 ·rw [List.getElem?_set, markL_at (n := n) (S := S ++ _) h, markL_len]
  split
  ·rename_i e; subst e; rw [if_pos h]; simp
  ·rename_i e; rw [markL_at h]; simp; intro e2; exact absurd (by omega) e
 ·rw [List.getElem?_eq_none (by rw [List.length_set, markL_len]; exact h), List.getElem?_eq_none (by rw [markL_len]; exact h)]
theorem OBl.mset {w : World} {base g c k n : Nat} {S : List Int} (h : OBl w base (.slice (some ⟨g, 0, none⟩) n c) (markL n S)) (hk : k < n) : OBl (w.setCell ⟨g, k, none⟩ (.bool true)) base (.slice (some ⟨g, 0, none⟩) n c) (markL n (S ++ [(k : Int)])) := by
 have h2 : OBl w base (.slice (some ⟨g, 0, none⟩) (markL n S).length c) (markL n S) := by rw [markL_len]; exact h
 have := h2.set (j := k) (by rw [markL_len]; exact hk) true
 rw [markL_set, markL_len] at this
 exact this
theorem OBl.mat {w : World} {base g c k n : Nat} {S : List Int} (h : OBl w base (.slice (some ⟨g, 0, none⟩) n c) (markL n S)) (hk : k < n) (hS : (k : Int) ∉ S) : w.cell? ⟨g, k, none⟩ = some (.bool false) ∧ w.frozen? ⟨g, k, none⟩ = false := by
 have h2 : OBl w base (.slice (some ⟨g, 0, none⟩) (markL n S).length c) (markL n S) := by rw [markL_len]; exact h
 have := h2.at_ (markL_at hk)
 rwa [decide_eq_false hS] at this
theorem ints_at {w : World} {A : Option Addr} {n c i : Nat} {xs : List Int} {x : Int} (h : RdInts w (.slice A n c) xs) (hi : xs[i]? = some x) : ∃ b off, A = some ⟨b, off, none⟩ ∧ b < w.heap.size ∧ w.cell? ⟨b, off + i, none⟩ = some (.int .i64 x) := by
 obtain ⟨_, _, A', c', h1, h2, h3⟩ := h
 have hl := (List.getElem?_eq_some_iff.1 hi).1
 obtain ⟨b, off, e, hb, hc⟩ := h3 (by omega)
 injection h1 with h1 _ _
 subst h1
 refine ⟨b, off, e, hb, ?_⟩
 rw [hc i hl, List.getD_eq_getElem?_getD, hi]
 rfl
theorem kids_next {L : List NodeM} {i : Nat} {m : NodeM} (h : L[i]? = some m) : kidsOf (L.take i) ++ m.kids.take m.kids.length = kidsOf (L.take (i + 1)) := by
 rw [List.take_length, List.take_add_one, h, kidsOf_app]
 simp [kidsOf]
theorem upward_any {L : List NodeM} {w : World} {v : Value} (hT : RdL CeNode 5 w v L) (hL : L.length ≤ 4000) (hu : UpOk L) : Calls Try.prog 39 #[v] w fun e w' => e = .returned (.bool true) ∧ Kp w w' := by
 obtain ⟨A, c, rfl, _⟩ := hT.form
 have HT := hid hT; have HL := hid hL; have HU := hid hu
 obtain ⟨i0, hT2, hi, hz, hz1', hz2, _, _⟩ := elBool
 have hmk : ∀ u : World, (Instr.makeSlice 87 (.int .i64 (L.length : Int)) (.int .i64 (L.length : Int))).run Try.prog u =
   .ok (.slice (some ⟨u.heap.size, 0, none⟩) L.length L.length) (u.alloc (.cells (madeCells #[.bool false] L.length) 4)) := fun u => by
  have h := run_make (P := Try.prog) u 87 4 i0 (.bool false) hT2 hi hz .i64 .i64 (L.length : Int) (L.length : Int) (by omega) (Int.le_refl _) (by rw [hz2]; omega) (by omega)
  simpa [hz1', Value.cells] using h
 have HB0 := hid (OBl.made w L.length (by unfold maxLen; omega))
 have HK0 := hid ((Kp.refl w).alloc (.cells (madeCells #[.bool false] L.length) 4))
 clear hT hL hu hT2 hi hz hz1' hz2
 go_enter Try.func39, Try.ntmps39
 go_upto_region 2 with fail
 generalize w.alloc _ = W at HB0 HK0 ⊢
 obtain ⟨g, hg⟩ : ∃ g, w.heap.size = g := ⟨_, rfl⟩
 have HG := hid hg
 rw [hg] at HB0 ⊢
 clear hg hmk
 go_wp2_with fail
 go_loopw [13] (fun x wr => ∃ i : Nat, i ≤ L.length ∧ x = .int .i64 (i : Int) ∧ OBl wr g (.slice (some ⟨g, 0, none⟩) L.length L.length) (markL L.length (kidsOf (L.take i))) ∧ Kp w wr) (fun x _ => L.length - (intOf x).toNat)
 case atStart => exact ⟨0, Nat.zero_le _, rfl, by rw [show kidsOf (L.take 0) = [] from rfl, markL_nil]; exact HB0.out, HK0.out⟩
 case round =>
  obtain ⟨i, hi, rfl, hb, hk⟩ := hrel
  clear HB0 HK0
  have HB := hid hb; have HK := hid hk
  by_cases hl : i < L.length
  ·have i1 : (i : Int) < (L.length : Int) := by omega
   have HI := hid hl
   obtain ⟨m, hm⟩ : ∃ m, L[i]? = some m := ⟨_, List.getElem?_eq_getElem hl⟩
   have HM := hid hm
   obtain ⟨bt, off, rfl, hbt, lk, g0, g1, g2, g3, g4, _, _, _, _, rk, hkl⟩ := at_node HT.out hm
   have g0 := cell_kp hk hbt g0
   have g1 := cell_kp hk hbt g1
   have g2 := cell_kp hk hbt g2
   have g3 := cell_kp hk hbt g3
   have g4 := cell_kp hk hbt g4
   obtain ⟨Ak, ck, rfl⟩ := rk.form
   have HRK := hid rk; have HKL := hid hkl
   have k1 : IntKind.i64.wrap ((i : Int) + 1) = ((i + 1 : Nat) : Int) := by rw [IntKind.wrap_i64]; have := HL.out; omega
   have HK1 := hid k1
   clear hi hl hm rk hkl hb hk k1
   go_upto_region 5 with fail
   have hnp := blk_new wr (.cells #[.int .i64 m.kind, .string m.text, .string m.type_, .int .i64 m.num, .slice Ak m.kids.length ck] 37)
   have HKW := hid ((Kp.refl wr).alloc (.cells #[.int .i64 m.kind, .string m.text, .string m.type_, .int .i64 m.num, .slice Ak m.kids.length ck] 37))
   generalize wr.alloc _ = W1 at hnp HKW ⊢
   have n4 := blk_cell (o := 4) hnp rfl
   clear hnp g0 g1 g2 g3 g4 i1
   go_wp2_with fail
   go_loopw [21] (fun x ws => ∃ j : Nat, j ≤ m.kids.length ∧ x = .int .i64 (j : Int) ∧ OBl ws g (.slice (some ⟨g, 0, none⟩) L.length L.length) (markL L.length (kidsOf (L.take i) ++ m.kids.take j)) ∧ Kp w ws) (fun x _ => m.kids.length - (intOf x).toNat)
   case atStart => exact ⟨0, Nat.zero_le _, rfl, by have h := HB.out.kp HKW.out; simpa using h, HK.out.trans HKW.out⟩
   case round =>
    obtain ⟨j, hj, rfl, hb, hk⟩ := hrel
    clear n4
    have HB2 := hid hb; have HK2 := hid hk
    by_cases hlj : j < m.kids.length
    ·have i1 : (j : Int) < (m.kids.length : Int) := by omega
     obtain ⟨x, hx⟩ : ∃ x, m.kids[j]? = some x := ⟨_, List.getElem?_eq_getElem hlj⟩
     obtain ⟨u1, u2, u3⟩ := HU.out i m HM.out j x hx
     obtain ⟨k, rfl⟩ : ∃ k : Nat, x = (k : Int) := ⟨x.toNat, by omega⟩
     obtain ⟨kb, ko, rfl, hkb, c1⟩ := ints_at (HRK.out.kp hk) hx
     have hkn : k < L.length := by have := HI.out; omega
     obtain ⟨c2, c3⟩ := hb.mat hkn u3
     have HSET := hid (hb.mset hkn)
     have i2 : ¬ (k : Int) < 0 := by omega
     have i3 : ¬ (i : Int) ≤ (k : Int) := by omega
     have i4 : (k : Int) < (L.length : Int) := by omega
     have k1 : IntKind.i64.wrap ((j : Int) + 1) = ((j + 1 : Nat) : Int) := by rw [IntKind.wrap_i64]; have := HKL.out; omega
     have HX := hid hx
     have HJ := hid hlj
     have hgb := Nat.le_of_eq HG.out
     clear hj hlj hb hk u1 u2 u3 hkn hx
     go_wp2
     refine ⟨⟨j + 1, HJ.out, rfl, by rw [List.take_add_one, HX.out, ← List.append_assoc]; exact HSET.out, HK2.out.setCell (p := ⟨g, k, none⟩) hgb _⟩, meas_up HJ.out⟩
    ·have i1 : ¬ (j : Int) < (m.kids.length : Int) := by omega
     obtain rfl : j = m.kids.length := by omega
     have k1 := HK1.out
     clear hj hlj hb hk
     go_wp2
     refine ⟨⟨i + 1, HI.out, rfl, by rw [← kids_next HM.out]; exact HB2.out, HK2.out⟩, meas_up HI.out⟩
  ·have i1 : ¬ (i : Int) < (L.length : Int) := by omega
   clear hi hl hb hk
   go_wp2
   go_ret
   exact ⟨rfl, HK.out⟩
end Go.Proofs.Ytcjgagmcnmmfoaa.Pa

namespace Go.Proofs.Ytcjgagmcnmmfoaa.Pa
open Go.RowKit

theorem shaped_any {w : World} {v : Value} {t : T} (hT : RdL CeNode 5 w v (flat 0 t)) (hL : sizeT t ≤ 4000) (hg : GT t) (hk : kindT t = 1) : Calls Try.prog 22 #[v] w fun e w' => e = .returned (.bool true) ∧ Kp w w' := by
 obtain ⟨A, c, rfl, _⟩ := hT.form
 have hsub : Sub (flat 0 t) 0 (flat 0 t) := fun i m h => by rw [Nat.zero_add]; exact h
 obtain ⟨m, hm, hmk⟩ := root_at hsub
 rw [hk] at hmk
 have hrt := rootT_eq 0 t
 have hpos := sizeT_pos t
 have HT := hid hT; have HG := hid hg
 have HUP := hid (upward_any hT (by rw [flat_len]; exact hL) (up_flat t))
 have HND := hid fun cp => node_any (cp := cp) hT (by rw [flat_len]; exact hL) (sizeT t) t (Nat.le_refl _) hg 0 hsub
 have hlen := flat_len 0 t
 obtain ⟨bt, off, rfl, hbt, lk, g0, _⟩ := at_node hT hm
 rw [hmk] at g0
 obtain ⟨n, hn⟩ : ∃ n, sizeT t = n := ⟨_, rfl⟩
 obtain ⟨q, hq⟩ : ∃ q, rootT 0 t = q := ⟨_, rfl⟩
 rw [hlen, hn] at HUP HND HT ⊢
 rw [hq] at g0 hrt
 have HQ := hid hq; have HN := hid hn
 rw [hn] at hrt hpos hL
 have k1 : IntKind.i64.wrap ((n : Int) - 1) = (q : Int) := by rw [IntKind.wrap_i64]; omega
 have i1 : (q : Int) < (n : Int) := by omega
 have HZ := hid hrt
 clear hT hg hk hsub hm hmk hlen hq hn hrt hpos hL
 go_enter Try.func22, Try.ntmps22
 go_upto_region 3 with (go_at_call 39; go_must (refine HUP.out.mono ?_); rintro e w1 ⟨rfl, hk1⟩; have g0 := cell_kp hk1 hbt g0; have HK1 := hid hk1; clear hk1)
 go_upto_region 4 with fail
 have hbx := blk_new w1 (.cells #[.slice (some ⟨bt, off, none⟩) n c, .int .i64 0] 75)
 have HCO := hid (show CoS w w1.heap.size (.slice (some ⟨bt, off, none⟩) n c) 0 (w1.alloc (.cells #[.slice (some ⟨bt, off, none⟩) n c, .int .i64 0] 75)) from ⟨HK1.out.alloc _, HK1.out.le, hbx⟩)
 generalize w1.alloc _ = W at hbx HCO ⊢
 generalize w1.heap.size = cp at hbx HCO ⊢
 have hnode := HND.out cp W HCO.out
 rw [HQ.out, HN.out] at hnode
 have HNO := hid hnode
 clear hnode g0 HUP hbx
 go_wp2_with (go_at_call 40; go_must (refine HNO.out.mono ?_); rintro e w2 ⟨rfl, hs2, hg2⟩; have q1 := blk_cell (o := 1) hs2.box rfl; have HS2 := hid hs2; rw [Nat.zero_add] at q1; clear hs2 hg2)
 go_ret
 exact ⟨by simp, HS2.out.kp⟩
end Go.Proofs.Ytcjgagmcnmmfoaa.Pa

namespace Go.Proofs.Ytcjgagmcnmmfoaa
open Go.RowKit

structure ResAt (w : World) (b0 b1 : Nat) (v : Value) (s : Array Value) : Prop where
 a : w.heap[b0]? = some (.cells #[v] 39 (0, 0))
 b : w.heap[b1]? = some (.cells s 25 (0, 0))
theorem ResAt.kp {w w' : World} {b0 b1 : Nat} {v : Value} {s : Array Value} (h : ResAt w b0 b1 v s) (hk : Kp w w') : ResAt w' b0 b1 v s := ⟨(hk.block b0 (blk_lt h.a)).trans h.a, (hk.block b1 (blk_lt h.b)).trans h.b⟩
theorem ResAt.below {B : Nat} {w w' : World} {b0 b1 : Nat} {v : Value} {s : Array Value} (h : ResAt w b0 b1 v s) (hk : Below B w w') (h0 : b0 < B) (h1 : b1 < B) : ResAt w' b0 b1 v s := ⟨(hk.block b0 h0).trans h.a, (hk.block b1 h1).trans h.b⟩
theorem ResAt.set0 {w : World} {b0 b1 : Nat} {v : Value} {s : Array Value} (h : ResAt w b0 b1 v s) (hn : b0 ≠ b1) (v2 : Value) : ResAt (w.setCell ⟨b0, 0, none⟩ v2) b0 b1 v2 s := ⟨blk_set h.a _, (blk_far (p := ⟨b0, 0, none⟩) (fun e => hn e.symm) _).trans h.b⟩
theorem ResAt.set1 {w : World} {b0 b1 : Nat} {v x y z : Value} (h : ResAt w b0 b1 v #[x, y, z]) (hn : b0 ≠ b1) (x2 y2 z2 : Value) : ResAt (((w.setCell ⟨b1, 0, none⟩ x2).setCell ⟨b1, 1, none⟩ y2).setCell ⟨b1, 2, none⟩ z2) b0 b1 v #[x2, y2, z2] :=
 ⟨(blk_far (p := ⟨b1, 2, none⟩) hn _).trans ((blk_far (p := ⟨b1, 1, none⟩) hn _).trans ((blk_far (p := ⟨b1, 0, none⟩) hn _).trans h.a)), blk_set (blk_set (blk_set h.b _) _) _⟩
def errS (e : Err) : Array Value := #[.int .i64 e.1, .int .i64 e.2.1, .int .i64 e.2.2]
theorem rep7 : Array.replicate 7 undef = #[undef, undef, undef, undef, undef, undef, undef] := rfl
theorem catch_stop (w : World) (B b0 b1 : Nat) (v0 x0 y0 z0 : Value) (er : Err) (hr : ResAt w b0 b1 v0 #[x0, y0, z0]) (hn : b0 ≠ b1) (h0 : B ≤ b0) (h1 : B ≤ b1) (older : List PanicEntry) :
  CallsD Try.prog 13 #[.pointer (some ⟨b0, 0, none⟩), .pointer (some ⟨b1, 0, none⟩)] (.panicking ({ v := .iface 52 (.agg #[.int .i64 er.1, .int .i64 er.2.1, .int .i64 er.2.2]), recovered := false } :: older)) w fun e u' w' =>
   e = .returned (.tuple #[]) ∧ u' = .panicking ({ v := .iface 52 (.agg #[.int .i64 er.1, .int .i64 er.2.1, .int .i64 er.2.2]), recovered := true } :: older) ∧ ResAt w' b0 b1 (.slice none 0 0) (errS er) ∧ Below B w w' := by
 refine callsD_of_wpS Try.func13 rfl fun c₀ cs hu => ?_
 apply wpS_seq
 apply wpS_region
 simp [wpOpsS, go_sem, recoverD, hu, Try.ntmps13, Exit.thenS, rep7]
 apply wpS_seq
 apply wpS_region
 simp [wpOpsS, go_sem, Exit.thenS]
 refine wpS_cond (t := true) (by simp [Act.eval]) ?_
 simp only [if_true]
 refine wpS_of_wp ?_
 have HR := hid hr
 have HB0 := hid (blk_lt hr.a); have HB1 := hid (blk_lt hr.b)
 clear hr
 refine wp_region_phase [3, 4] [(0, 1), (0, 1), (0, 1), (0, 0), (0, 0)] (fun _ _ => True) [[], [0], [1], [], [2, 3]]
  (fun (p : Nat) (x : Nat → Value) (u : World) => match p with | 0 => Kp w u | 1 => ResAt u b0 b1 (.slice none 0 0) #[x0, y0, z0] ∧ Below B w u | _ => ResAt u b0 b1 (.slice none 0 0) (errS er) ∧ Below B w u)
  [fun (y : Value) (u : World) => y = (.iface 52 (.agg #[.int .i64 er.1, .int .i64 er.2.1, .int .i64 er.2.2]) : Value),
  fun (y : Value) (u : World) => y = (.agg #[.int .i64 er.1, .int .i64 er.2.1, .int .i64 er.2.2] : Value),
  fun (y : Value) (u : World) => y = (.agg #[.int .i64 er.1, .int .i64 er.2.1, .int .i64 er.2.2] : Value),
  fun (y : Value) (u : World) => True,
  fun (y : Value) (u : World) => True]
  (by kernel_rfl) (by kernel_rfl) (by kernel_rfl) (by kernel_rfl) (by kernel_rfl) (by kernel_rfl) (fun _ _ _ => trivial) ((Kp.refl w).drew) ?hKb ?hXb ⟨fun _ _ _ _ h => h, fun _ _ _ _ h => h, fun _ _ _ _ h => h, fun _ _ _ _ _ => trivial, fun _ _ _ _ _ => trivial, trivial⟩ ⟨?sb0, ?sb1, ?sb2, ?sb3, ?sb4, trivial⟩ ?hEb
 case hKb =>
  intro p x w w' hk h
  rcases p with _ | _ | p
  ·exact h.trans hk
  ·exact ⟨h.1.kp hk, Below.trans h.2 (Below.mono hk (Nat.le_trans (Nat.le_trans h0 (Nat.le_of_lt HB0.out)) h.2.size))⟩
  ·exact ⟨h.1.kp hk, Below.trans h.2 (Below.mono hk (Nat.le_trans (Nat.le_trans h0 (Nat.le_of_lt HB0.out)) h.2.size))⟩
 case hXb =>
  intro p x i v w hi h
  have e0 : upd x i v 3 = x 3 := if_neg (fun hh => hi (by rw [← hh]; decide))
  have e1 : upd x i v 4 = x 4 := if_neg (fun hh => hi (by rw [← hh]; decide))
  rcases p with _ | _ | p
  ·first | exact h | (simp only [e0, e1]; exact h)
  ·first | exact h | (simp only [e0, e1]; exact h)
  ·first | exact h | (simp only [e0, e1]; exact h)
 case sb0 =>
  refine OpStepQ.off 0 1 (by kernel_rfl) (by kernel_rfl) ?_
  intro x u p hp hg hd K hK
  clear hd
  refine ⟨?_⟩
  simp only [putsFrom, Act.put, List.setIfInBounds_toArray, List.set_cons_zero, List.set_cons_succ, Nat.reduceAdd] at hK ⊢
  go_simp
  exact hK.out _ _ (Kp.refl _) rfl
 case sb1 =>
  refine OpStepQ.off 0 1 (by kernel_rfl) (by kernel_rfl) ?_
  intro x u p hp hg hd K hK
  have d0 : (x 0) = .iface 52 (.agg #[.int .i64 er.1, .int .i64 er.2.1, .int .i64 er.2.2]) := hd.1
  clear hd
  refine ⟨?_⟩
  simp only [putsFrom, Act.put, List.setIfInBounds_toArray, List.set_cons_zero, List.set_cons_succ, Nat.reduceAdd, d0] at hK ⊢
  go_simp
  exact hK.out _ _ (Kp.refl _) rfl
 case sb2 =>
  refine OpStepQ.off 0 1 (by kernel_rfl) (by kernel_rfl) ?_
  intro x u p hp hg hd K hK
  have d1 : (x 1) = .agg #[.int .i64 er.1, .int .i64 er.2.1, .int .i64 er.2.2] := hd.1
  clear hd
  refine ⟨?_⟩
  simp only [putsFrom, Act.put, List.setIfInBounds_toArray, List.set_cons_zero, List.set_cons_succ, Nat.reduceAdd, d1] at hK ⊢
  go_simp
  exact hK.out _ _ (Kp.refl _) rfl
 case sb3 =>
  refine OpStepQ.on 0 (by kernel_rfl) (by kernel_rfl) ?_
  intro x u hg hd K hK
  change Kp w u at hg
  clear hd
  have hru := HR.out.kp hg
  have HRU := hid hru
  have HGG := hid hg
  have q0 : u.cell? ⟨b0, 0, none⟩ = some v0 := blk_cell hru.a rfl
  have qf : u.frozen? ⟨b0, 0, none⟩ = false := blk_free hru.a
  clear hru
  refine ⟨?_⟩
  simp only [putsFrom, Act.put, List.setIfInBounds_toArray, List.set_cons_zero, List.set_cons_succ, Nat.reduceAdd] at hK ⊢
  go_simp
  exact hK.out undef _ trivial ⟨HRU.out.set0 hn _, (Below.mono HGG.out (Nat.le_trans h0 (Nat.le_of_lt HB0.out))).setCell h0 _⟩ trivial
 case sb4 =>
  refine OpStepQ.on 1 (by kernel_rfl) (by kernel_rfl) ?_
  intro x u hg hd K hK
  change ResAt u b0 b1 (.slice none 0 0) #[x0, y0, z0] ∧ Below B w u at hg
  have d2 : (x 2) = .agg #[.int .i64 er.1, .int .i64 er.2.1, .int .i64 er.2.2] := hd.1
  clear hd
  have hru := hg.1
  have HRU := hid hru
  have HGG := hid hg.2
  have q0 : u.cell? ⟨b1, 0, none⟩ = some x0 := blk_cell hru.b rfl
  have q1 : u.cell? ⟨b1, 1, none⟩ = some y0 := blk_cell hru.b rfl
  have q2 : u.cell? ⟨b1, 2, none⟩ = some z0 := blk_cell hru.b rfl
  have qf : u.frozen? ⟨b1, 0, none⟩ = false := blk_free hru.b
  have qf1 : u.frozen? ⟨b1, 1, none⟩ = false := blk_free hru.b
  have qf2 : u.frozen? ⟨b1, 2, none⟩ = false := blk_free hru.b
  clear hru
  refine ⟨?_⟩
  simp only [putsFrom, Act.put, List.setIfInBounds_toArray, List.set_cons_zero, List.set_cons_succ, Nat.reduceAdd, d2] at hK ⊢
  go_simp
  exact hK.out undef _ trivial ⟨HRU.out.set1 hn _ _ _, ((HGG.out.setCell h1 _).setCell h1 _).setCell h1 _⟩ trivial
 intro x u hg he
 have d0 : (x 0) = .iface 52 (.agg #[.int .i64 er.1, .int .i64 er.2.1, .int .i64 er.2.2]) := he.1
 have d1 : (x 1) = .agg #[.int .i64 er.1, .int .i64 er.2.1, .int .i64 er.2.2] := he.2.1
 have d2 : (x 2) = .agg #[.int .i64 er.1, .int .i64 er.2.1, .int .i64 er.2.2] := he.2.2.1
 clear he
 change ResAt u b0 b1 (.slice none 0 0) (errS er) ∧ Below B w u at hg
 refine ⟨?_⟩
 simp only [putsFrom, Act.put, List.setIfInBounds_toArray, List.set_cons_zero, List.set_cons_succ, Nat.reduceAdd, d0, d1, d2]
 clear d0 d1 d2
 obtain ⟨hru, hbw⟩ := hg
 refine ⟨rfl, _, rfl, _, by simp [results, Try.results13], rfl, ?_, hru, hbw⟩
 rfl
theorem catch_idle (w : World) (p0 p1 : Addr) :
  CallsD Try.prog 13 #[.pointer (some p0), .pointer (some p1)] .returning w fun e u' w' => e = .returned (.tuple #[]) ∧ u' = .returning ∧ w' = w := by
 refine callsD_of_wpS Try.func13 rfl fun c₀ cs hu => ?_
 apply wpS_seq
 apply wpS_region
 simp [wpOpsS, go_sem, recoverD, hu, Try.ntmps13, Exit.thenS, rep7]
 apply wpS_seq
 apply wpS_region
 simp [wpOpsS, go_sem, Exit.thenS]
 refine wpS_cond (t := false) (by simp [Act.eval]) ?_
 simp only [Bool.false_eq_true, if_false]
 refine wpS_of_wp (wp_skip ?_)
 cases c₀
 simp_all [bodyPostS, results, Try.results13]
theorem blk_new2 (w : World) (x y : Obj) : ((w.alloc x).alloc y).heap[w.heap.size + 1]? = some y := by
 have e : (w.alloc x).heap.size = w.heap.size + 1 := by simp
 rw [← e]; exact blk_new _ _
def TokP (w : World) (S : ByteArray) (e : Ending) (w' : World) : Prop :=
 ((∃ l v, ToksM S (.ok l) ∧ e = .returned (.tuple #[v, .agg #[.int .i64 0, .int .i64 0, .int .i64 0]]) ∧ OwnL CeToken 4 57 w' w.heap.size v l) ∨
 (∃ er : Err, ToksM S (.error er) ∧ 1 ≤ er.1 ∧ er.1 ≤ 20 ∧ e = .returned (.tuple #[.slice none 0 0, .agg #[.int .i64 er.1, .int .i64 er.2.1, .int .i64 er.2.2]]))) ∧ Kp w w'
theorem putM_err {c : CutM} {k : Int} {t : ByteArray} {n : Nat} {er : Err} (h : putM c k t n = .error er) : er = (15, c.line, c.col) := by
 unfold putM at h
 split at h
 ·injection h with h; exact h.symm
 ·cases h
theorem lineEndM_err {c : CutM} {er : Err} (h : lineEndM c = .error er) : er = (15, c.line, c.col) := by
 unfold lineEndM at h
 split at h
 ·split at h
  ·exact putM_err h
  ·cases h
 ·cases h
theorem stepM_err {S : ByteArray} {c : CutM} {er : Err} (hl : c.pos < S.size) (h : stepM S c = .error er) : 1 ≤ er.1 ∧ er.1 ≤ 20 ∧ er.2.1 = c.line ∧ er.2.2 = c.col := by
 have hne : restOf S c.pos ≠ [] := by rw [rest_cons hl]; exact List.cons_ne_nil _ _
 obtain ⟨_, _, g3⟩ := lex_len hne
 unfold stepM at h
 split at h
 ·cases hq : lineEndM c with
  | error e =>
   rw [hq] at h
   injection h with h
   subst h
   rw [lineEndM_err hq]; exact ⟨by show (1 : Int) ≤ 15; omega, by show (15 : Int) ≤ 20; omega, rfl, rfl⟩
  | ok c1 => rw [hq] at h; cases h
 ·cases h
 ·rw [putM_err h]; exact ⟨by show (1 : Int) ≤ 15; omega, by show (15 : Int) ≤ 20; omega, rfl, rfl⟩
 ·rename_i e he
  injection h with h
  subst h
  have := g3 e he
  exact ⟨by show 1 ≤ e; omega, by show e ≤ 20; omega, rfl, rfl⟩
theorem toks_any (w : World) (S : ByteArray) (hs : S.size ≤ 140737488351232) : Calls Try.prog 7 #[.string S] w (TokP w S) := by
 have hmf : ∀ (fn : Fn) (first cap : Array Value) (w : World), (Instr.makeFunc fn first cap).run Try.prog w = .ok (.func fn first cap) w := fun _ _ _ _ => rfl
 have HB1 := hid (show ((w.alloc (.cells #[.slice none 0 0] 39)).alloc (.cells #[.int .i64 0, .int .i64 0, .int .i64 0] 25)).heap[w.heap.size]? = some (.cells #[.slice none 0 0] 39 (0, 0)) from blk_old (blk_new _ _) _)
 have HB2 := hid (show ((w.alloc (.cells #[.slice none 0 0] 39)).alloc (.cells #[.int .i64 0, .int .i64 0, .int .i64 0] 25)).heap[w.heap.size + 1]? = some (.cells #[.int .i64 0, .int .i64 0, .int .i64 0] 25 (0, 0)) from blk_new2 _ _ _)
 have HKA := hid (show Kp w ((w.alloc (.cells #[.slice none 0 0] 39)).alloc (.cells #[.int .i64 0, .int .i64 0, .int .i64 0] 25)) from ((Kp.refl w).alloc _).alloc _)
 by_cases h8 : 8000 < S.size
 ·have i1 : (8000 : Int) < (S.size : Int) := by omega
  have HT := hid (show ToksM S (.error (1, 0, 0)) by unfold ToksM; rw [if_pos h8])
  clear h8 hs
  go_enter_defers Try.func7, Try.ntmps7
  go_wp2
  exact ⟨_, by simp [results, Try.results7, go_sem], .inr ⟨(1, 0, 0), HT.out, by show (1 : Int) ≤ 1; omega, by show (1 : Int) ≤ 20; omega, rfl⟩, ((Kp.refl w).alloc _).alloc _⟩
 ·have i1 : ¬ (8000 : Int) < (S.size : Int) := by omega
  have BD0 := hid (cut0_bd (S := S) (by omega))
  have HTM := hid (fun r (h : Runs S cut0 r) => (show ToksM S r by unfold ToksM; rw [if_neg h8]; exact h))
  have HSZ := hid (show S.size ≤ 8000 by omega)
  clear h8 hs
  have HR0 := hid (show ResAt (((w.alloc (.cells #[.slice none 0 0] 39)).alloc (.cells #[.int .i64 0, .int .i64 0, .int .i64 0] 25)).alloc (.cells #[.string S, .int .i64 0, .int .i64 1, .int .i64 1, .slice none 0 0] 55)) w.heap.size (w.heap.size + 1) (.slice none 0 0) #[.int .i64 0, .int .i64 0, .int .i64 0] from ⟨blk_old HB1.out _, blk_old HB2.out _⟩)
  have HZ := hid (show ((w.alloc (.cells #[.slice none 0 0] 39)).alloc (.cells #[.int .i64 0, .int .i64 0, .int .i64 0] 25)).heap.size = w.heap.size + 1 + 1 by simp)
  have HC0 := hid (show Cut (((w.alloc (.cells #[.slice none 0 0] 39)).alloc (.cells #[.int .i64 0, .int .i64 0, .int .i64 0] 25)).alloc (.cells #[.string S, .int .i64 0, .int .i64 1, .int .i64 1, .slice none 0 0] 55)) (w.heap.size + 1 + 1) S cut0 (.slice none 0 0) from ⟨by rw [← HZ.out]; exact blk_new _ _, OwnL.nil _ _ _ _ _⟩)
  have HK0 := hid (HKA.out.alloc (.cells #[.string S, .int .i64 0, .int .i64 1, .int .i64 1, .slice none 0 0] 55))
  clear HB1 HB2 HKA
  go_enter_defers Try.func7, Try.ntmps7
  go_wp2_with fail
  obtain ⟨cb, hcb⟩ : ∃ cb, w.heap.size + 1 + 1 = cb := ⟨_, rfl⟩
  rw [hcb] at HC0 ⊢
  obtain ⟨b1, hb1⟩ : ∃ b1, w.heap.size + 1 = b1 := ⟨_, rfl⟩
  rw [hb1] at HR0 ⊢
  generalize (((w.alloc (.cells #[.slice none 0 0] 39)).alloc (.cells #[.int .i64 0, .int .i64 0, .int .i64 0] 25)).alloc (.cells #[.string S, .int .i64 0, .int .i64 1, .int .i64 1, .slice none 0 0] 55)) = W3 at HR0 HC0 HK0 ⊢
  obtain ⟨b0, hb0⟩ : ∃ b0, w.heap.size = b0 := ⟨_, rfl⟩
  rw [hb0] at HR0 ⊢
  have HN := hid (show w.heap.size = b0 ∧ b0 < b1 ∧ b1 < cb by omega)
  clear hcb hb1 hb0 HZ i1
  go_loopw [] (fun wr => ∃ c, CutS wr cb S c ∧ (∀ r, Runs S c r → Runs S cut0 r) ∧ ResAt wr b0 b1 (.slice none 0 0) #[.int .i64 0, .int .i64 0, .int .i64 0] ∧ Kp w wr) (fun wr => S.size - posOf wr cb)
  case atStart => exact ⟨cut0, ⟨⟨_, HC0.out⟩, BD0.out⟩, fun r h => h, HR0.out, HK0.out⟩
  case round =>
   obtain ⟨c, hcs, hrn, hra, hkp⟩ := hrel
   have HCS := hid hcs; have HRN := hid hrn; have HRA := hid hra; have HKR := hid hkp
   obtain ⟨⟨ov, hcu⟩, bd⟩ := hcs
   have HCU := hid hcu; have BD := hid bd
   have c1 := hcu.c1
   have hlt := hcu.lt
   clear hrn hra hkp hcu
   by_cases hl : c.pos < S.size
   ·have i2 : (c.pos : Int) < (S.size : Int) := by omega
    have HL := hid hl
    cases hq : stepM S c with
    | ok c2 =>
     have HQ := hid hq
     have HPP := hid (bd.step hl hq).2
     clear hq bd
     go_wp2_with (go_at_call 14; go_must (refine (token_any _ cb S c HCS.out HL.out).mono ?_); intro e w9 hp; obtain ⟨he, hc2, hb2⟩ := CutP.of_ok hp HQ.out; subst he; clear hp)
     have hcs2 := hc2
     obtain ⟨⟨ov2, hcu2⟩, _⟩ := hcs2
     refine ⟨⟨c2, hc2, fun r h => HRN.out r (.step HL.out HQ.out h), HRA.out.below hb2 (by have := HN.out; omega) (by have := HN.out; omega), Below.trans HKR.out (Below.mono hb2 (by have := HN.out; omega))⟩, ?_⟩
     rw [hcu2.posOf, HCU.out.posOf]
     have := HPP.out; have := HL.out; omega
    | error er =>
     have HQ := hid hq
     have HER := hid (stepM_err hl hq)
     clear hq bd
     go_wp2_with (go_at_call 14; go_must (refine (token_any _ cb S c HCS.out HL.out).mono ?_); intro e w9 hp; obtain ⟨he, hb2⟩ := CutP.of_err hp HQ.out; unfold stopE at he; subst he; clear hp)
     refine leaves_cons (f := 13) (args := #[.pointer (some ⟨b0, 0, none⟩), .pointer (some ⟨b1, 0, none⟩)]) (by simp) (by simp [go_sem]) ?_
     refine (catch_stop _ b0 b0 b1 _ _ _ _ er (HRA.out.below hb2 (by have := HN.out; omega) (by have := HN.out; omega)) (by have := HN.out; omega) (Nat.le_refl _) (by have := HN.out; omega) []).mono ?_
     rintro e u' w'' ⟨rfl, rfl, hr3, hb3⟩
     have q0 : w''.cell? ⟨b0, 0, none⟩ = some (.slice none 0 0) := blk_cell hr3.a rfl
     have q1 : w''.cell? ⟨b1, 0, none⟩ = some (.int .i64 er.1) := blk_cell hr3.b rfl
     have q2 : w''.cell? ⟨b1, 1, none⟩ = some (.int .i64 er.2.1) := blk_cell hr3.b rfl
     have q3 : w''.cell? ⟨b1, 2, none⟩ = some (.int .i64 er.2.2) := blk_cell hr3.b rfl
     have hkf : Kp w w'' := Below.trans HKR.out (Below.trans (Below.mono hb2 (by have := HN.out; omega)) (by have h := HN.out.1; rw [h]; exact hb3))
     refine ⟨_, by simp [results, Try.results7, go_sem, q0, q1, q2, q3], .inr ⟨er, HTM.out _ (HRN.out _ (.bad HL.out HQ.out)), HER.out.1, HER.out.2.1, rfl⟩, hkf⟩
   ·have i2 : ¬ (c.pos : Int) < (S.size : Int) := by omega
    have HL := hid (Nat.le_of_not_lt hl)
    cases hq : lineEndM c with
    | ok c2 =>
     have HQ := hid hq
     clear hq bd
     go_wp2_with (go_at_call 15; go_must (refine (lineEnd_any _ cb S c HCS.out).mono ?_); intro e w9 hp; obtain ⟨he, hc2, hb2⟩ := CutP.of_ok hp HQ.out; subst he; clear hp; obtain ⟨⟨ov2, hcu2⟩, _⟩ := hc2; obtain ⟨A2, cp2, rfl⟩ := hcu2.len; have HC2 := hid hcu2; have HB2 := hid hb2; have q4 := hcu2.c4; have hlt2 := hcu2.lt; have hr2 := HRA.out.below hb2 (by have := HN.out; omega) (by have := HN.out; omega); have HR2 := hid hr2; have r0 : w9.cell? ⟨b0, 0, none⟩ = some (.slice none 0 0) := blk_cell hr2.a rfl; have r1 : w9.cell? ⟨b1, 0, none⟩ = some (.int .i64 0) := blk_cell hr2.b rfl; have r2 : w9.cell? ⟨b1, 1, none⟩ = some (.int .i64 0) := blk_cell hr2.b rfl; have r3 : w9.cell? ⟨b1, 2, none⟩ = some (.int .i64 0) := blk_cell hr2.b rfl; have f0 := blk_free (o := 0) hr2.a; have f1 := blk_free (o := 0) hr2.b; have f2 := blk_free (o := 1) hr2.b; have f3 := blk_free (o := 2) hr2.b; have n1 : ¬ b0 = b1 := (by have := HN.out; omega); have n2 : ¬ b1 = b0 := (by have := HN.out; omega); clear hcu2 hb2 hr2)
     refine leaves_cons (f := 13) (args := #[.pointer (some ⟨b0, 0, none⟩), .pointer (some ⟨b1, 0, none⟩)]) (by simp) (by simp [go_sem]) ?_
     refine (catch_idle _ ⟨b0, 0, none⟩ ⟨b1, 0, none⟩).mono ?_
     rintro e u' w'' ⟨rfl, rfl, rfl⟩
     have hs0 := HR2.out.set0 n1 (.slice A2 c2.out.length cp2)
     have hs1 := hs0.set1 n1 (.int .i64 0) (.int .i64 0) (.int .i64 0)
     have q0 := blk_cell (o := 0) (v := .slice A2 c2.out.length cp2) hs1.a rfl
     have q1 := blk_cell (o := 0) (v := .int .i64 0) hs1.b rfl
     have q2 := blk_cell (o := 1) (v := .int .i64 0) hs1.b rfl
     have q3 := blk_cell (o := 2) (v := .int .i64 0) hs1.b rfl
     have hrun : ToksM S (.ok c2.out) := HTM.out _ (HRN.out _ (by have h := Runs.fin (S := S) (c := c) HL.out; rw [HQ.out] at h; exact h))
     have t0 := tok_touch HC2.out.out (rowTouch (o := 0) HR2.out.a (.slice A2 c2.out.length cp2)) (by decide)
     have t1 := tok_touch t0 (rowTouch (o := 0) hs0.b (.int .i64 0)) (by decide)
     have t2 := tok_touch t1 (rowTouch (o := 1) (blk_set hs0.b _) (.int .i64 0)) (by decide)
     have t3 := tok_touch t2 (rowTouch (o := 2) (blk_set (blk_set hs0.b _) _) (.int .i64 0)) (by decide)
     have hk0 : Kp w w9 := Below.trans HKR.out (Below.mono HB2.out (by have := HN.out; omega))
     have hw0 := HN.out.1
     have hkf : Kp w ((((w9.setCell ⟨b0, 0, none⟩ (.slice A2 c2.out.length cp2)).setCell ⟨b1, 0, none⟩ (.int .i64 0)).setCell ⟨b1, 1, none⟩ (.int .i64 0)).setCell ⟨b1, 2, none⟩ (.int .i64 0)) :=
      (((hk0.setCell (p := ⟨b0, 0, none⟩) (by show w.heap.size ≤ b0; omega) _).setCell (p := ⟨b1, 0, none⟩) (by show w.heap.size ≤ b1; have := HN.out; omega) _).setCell (p := ⟨b1, 1, none⟩) (by show w.heap.size ≤ b1; have := HN.out; omega) _).setCell (p := ⟨b1, 2, none⟩) (by show w.heap.size ≤ b1; have := HN.out; omega) _
     refine ⟨_, by simp [results, Try.results7, go_sem, q0, q1, q2, q3], .inl ⟨c2.out, .slice A2 c2.out.length cp2, hrun, rfl, OwnL.base_ (by have := HN.out; omega) t3⟩, hkf⟩
    | error er =>
     have HQ := hid hq
     have HER := hid (lineEndM_err hq)
     clear hq bd
     go_wp2_with (go_at_call 15; go_must (refine (lineEnd_any _ cb S c HCS.out).mono ?_); intro e w9 hp; obtain ⟨he, hb2⟩ := CutP.of_err hp HQ.out; unfold stopE at he; subst he; clear hp)
     refine leaves_cons (f := 13) (args := #[.pointer (some ⟨b0, 0, none⟩), .pointer (some ⟨b1, 0, none⟩)]) (by simp) (by simp [go_sem]) ?_
     refine (catch_stop _ b0 b0 b1 _ _ _ _ er (HRA.out.below hb2 (by have := HN.out; omega) (by have := HN.out; omega)) (by have := HN.out; omega) (Nat.le_refl _) (by have := HN.out; omega) []).mono ?_
     rintro e u' w'' ⟨rfl, rfl, hr3, hb3⟩
     have q0 : w''.cell? ⟨b0, 0, none⟩ = some (.slice none 0 0) := blk_cell hr3.a rfl
     have q1 : w''.cell? ⟨b1, 0, none⟩ = some (.int .i64 er.1) := blk_cell hr3.b rfl
     have q2 : w''.cell? ⟨b1, 1, none⟩ = some (.int .i64 er.2.1) := blk_cell hr3.b rfl
     have q3 : w''.cell? ⟨b1, 2, none⟩ = some (.int .i64 er.2.2) := blk_cell hr3.b rfl
     have hkf : Kp w w'' := Below.trans HKR.out (Below.trans (Below.mono hb2 (by have := HN.out; omega)) (by have h := HN.out.1; rw [h]; exact hb3))
     refine ⟨_, by simp [results, Try.results7, go_sem, q0, q1, q2, q3], .inr ⟨er, HTM.out _ (HRN.out _ (by have h := Runs.fin (S := S) (c := c) HL.out; rw [HQ.out] at h; exact h)), by rw [HER.out]; show (1 : Int) ≤ 15; omega, by rw [HER.out]; show (15 : Int) ≤ 20; omega, rfl⟩, hkf⟩
end Go.Proofs.Ytcjgagmcnmmfoaa

namespace Go.Proofs.Ytcjgagmcnmmfoaa
open Go.RowKit

theorem toks_ex (S : ByteArray) : ∃ r, ToksM S r := by
 unfold ToksM
 by_cases h8 : 8000 < S.size
 ·exact ⟨_, by rw [if_pos h8]⟩
 ·obtain ⟨r, hr⟩ := Runs.ex S.size cut0 (cut0_bd (S := S) (by omega)) (by simp [cut0])
  exact ⟨r, by rw [if_neg h8]; exact hr⟩
theorem toks_ok {S : ByteArray} {l : List TokenM} (hr : ToksM S (.ok l)) (w : World) : Calls Try.prog 7 #[.string S] w fun e w' => (∃ v, e = .returned (.tuple #[v, .agg #[.int .i64 0, .int .i64 0, .int .i64 0]]) ∧ OwnL CeToken 4 57 w' w.heap.size v l) ∧ Kp w w' := by
 have hs := hr.placed.2.2
 refine (toks_any w S (by omega)).mono ?_
 rintro e w' ⟨h1, h2⟩
 refine ⟨?_, h2⟩
 rcases h1 with ⟨l2, v, hT, h3, h4⟩ | ⟨er, hT, _⟩
 ·have hd := hT.det hr
  injection hd with hd
  subst hd
  exact ⟨v, h3, h4⟩
 ·have hd := hT.det hr
  cases hd
theorem toks_err {S : ByteArray} (hs : S.size ≤ 140737488351232) {er : Err} (hr : ToksM S (.error er)) (w : World) : Calls Try.prog 7 #[.string S] w fun e w' => (1 ≤ er.1 ∧ er.1 ≤ 20 ∧ e = .returned (.tuple #[.slice none 0 0, .agg #[.int .i64 er.1, .int .i64 er.2.1, .int .i64 er.2.2]])) ∧ Kp w w' := by
 refine (toks_any w S hs).mono ?_
 rintro e w' ⟨h1, h2⟩
 refine ⟨?_, h2⟩
 rcases h1 with ⟨l2, v, hT, h3, h4⟩ | ⟨er2, hT, g1, g2, h3⟩
 ·have hd := hT.det hr
  cases hd
 ·have hd := hT.det hr
  injection hd with hd
  subst hd
  exact ⟨g1, g2, h3⟩
end Go.Proofs.Ytcjgagmcnmmfoaa

