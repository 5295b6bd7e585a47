/-
  Package image: the reader's code. Condition: at most 2^30 bytes.
-/
import Derived.Test.YtgonekmmbeedeaaImgR
import Derived.Test.YtgonekmmbeedeaaOCode
import Derived.Test.YtgonekmmbeedeaaApp
import Derived.Test.YtgonekmmbeedeaaRegF
namespace Go.Proofs.Ytgonekmmbeedeaa
open Go.RowKit
set_option linter.unusedVariables false
set_option linter.unusedSimpArgs false

structure RcK (W w0 : World) (rb cb : Nat) : Prop where
  a : W.heap.size ≤ rb
  b : rb < w0.heap.size
  c : w0.heap.size < cb
/-- The reader's state, the code's box, the functions so far. -/
structure RcX (W w0 : World) (rb cb : Nat) (s : RSt) (vf vt : Value) (fs : List FnM) (u : World) : Prop where
  le : s.b.length ≤ 1073741824
  rdr : RdrB W u rb s
  kp : Kp W u
  grown : w0.grownBy u (some rb)
  box : u.heap[cb]? = some (.cells #[vf, vt] 25 (0, 0))
  fns : OwnL (CeOFn w0.heap.size) 5 45 u w0.heap.size vf fs
  res : u.heap[w0.heap.size]? = some (.cells #[.slice none 0 0, .slice none 0 0] 25 (0, 0))
def Tx (w0 u : World) (vt : Value) (ts : List ByteArray) : Prop := OwnL CeStr 1 9 u w0.heap.size vt ts
section
variable {W w0 u u' : World} {rb cb : Nat} {s s' : RSt} {vf vt vt' : Value} {fs : List FnM} {ts : List ByteArray}
theorem grown_below {w0 u u' : World} {r : Option Nat} (h : w0.grownBy u r) (hb : Below w0.heap.size u u') : w0.grownBy u' r :=
  ⟨hb.os.trans h.os, hb.tape.trans h.tape, hb.output.trans h.output, Nat.le_trans h.size hb.size, fun k hk hne => by rw [hb.block k hk, h.block k hk hne]⟩
theorem RcX.keep (h : RcX W w0 rb cb s vf vt fs u) (hk : Kp u u') : RcX W w0 rb cb s vf vt fs u' :=
  ⟨h.le, h.rdr.kp hk, h.kp.trans hk, h.grown.trans (grown_kp hk _), (hk.block _ (blk_lt h.box)).trans h.box, h.fns.kp CeOFn.kp hk, (hk.block _ (blk_lt h.res)).trans h.res⟩
theorem Tx.keep (h : Tx w0 u vt ts) (hk : Kp u u') : Tx w0 u' vt ts := OwnL.kp CeStr.kp h hk
theorem RcX.read (h : RcX W w0 rb cb s vf vt fs u) (K : RcK W w0 rb cb) (hle : s'.b.length ≤ s.b.length) (hr : RdrB W u' rb s') (hg : u.grownBy u' (some rb)) : RcX W w0 rb cb s' vf vt fs u' :=
  ⟨Nat.le_trans hle h.le, hr, Below.one h.kp hg K.a h.kp.le, h.grown.trans hg, grown_blk hg h.box (fun e => by injection e with e; have := K.b; have := K.c; omega), ownL_above (fun _ _ x => x.above hg K.b) h.fns hg K.b, grown_blk hg h.res (fun e => by injection e with e; have := K.b; omega)⟩
theorem Tx.read (h : Tx w0 u vt ts) (K : RcK W w0 rb cb) (hg : u.grownBy u' (some rb)) : Tx w0 u' vt ts := ownL_above (fun _ _ x => CeStr.any x) h hg K.b
theorem RcX.app {T : TypeId} (h : RcX W w0 rb cb s vf vt fs u) (K : RcK W w0 rb cb) (ht : Touch T u u') (hb : Below w0.heap.size u u') (h1 : 73 ≠ T) (h2 : 25 ≠ T) (h3 : 45 ≠ T) (h4 : 64 ≠ T) : RcX W w0 rb cb s vf vt fs u' := by
  obtain ⟨A, c, hr1, hr2⟩ := h.rdr
  exact ⟨h.le, ⟨A, c, ht.2 _ _ hr1 (fun cs fr e => by injection e with _ e _; exact h1 e), hr2⟩, Below.trans h.kp (Below.mono hb (by have := K.a; have := K.b; omega)), grown_below h.grown hb, ht.2 _ _ h.box (fun cs fr e => by injection e with _ e _; exact h2 e), ownL_touch h3 (fun _ _ x => x.touch h4 ht) h.fns ht, ht.2 _ _ h.res (fun cs fr e => by injection e with _ e _; exact h2 e)⟩
theorem RcX.set1 (h : RcX W w0 rb cb s vf vt fs u) (K : RcK W w0 rb cb) (v : Value) : RcX W w0 rb cb s vf v fs (u.setCell ⟨cb, 1, none⟩ v) := by
  obtain ⟨A, c, hr1, hr2⟩ := h.rdr
  have hne : rb ≠ cb := by have := K.b; have := K.c; omega
  have ht := rowTouch (o := 1) h.box v
  exact ⟨h.le, ⟨A, c, (blk_far (p := ⟨cb, 1, none⟩) hne v).trans hr1, hr2⟩, h.kp.setCell (p := ⟨cb, 1, none⟩) (by have := K.a; have := K.b; have := K.c; show W.heap.size ≤ cb; omega) v, grown_below h.grown ((Below.refl _ _).setCell (p := ⟨cb, 1, none⟩) (Nat.le_of_lt K.c) v), blk_set h.box v, ownL_touch (by decide) (fun _ _ x => x.touch (by decide) ht) h.fns ht, (blk_far (p := ⟨cb, 1, none⟩) (by show w0.heap.size ≠ cb; have := K.c; omega) v).trans h.res⟩
theorem Tx.set1 (h : Tx w0 u vt ts) (hb : u.heap[cb]? = some (.cells #[vf, vt'] 25 (0, 0))) (o : Nat) (v : Value) : Tx w0 (u.setCell ⟨cb, o, none⟩ v) vt ts := ownL_touch (e := 25) (by decide) (fun _ _ x => CeStr.any x) h (rowTouch (o := o) hb v)
end
/-- A function that is being read: its box. -/
structure RcF (W wN : World) (rb : Nat) (c0 c1 c2 c3 : Value) (s : RSt) (lins : Value) (u : World) : Prop where
  le : s.b.length ≤ 1073741824
  rdr : RdrB W u rb s
  kp : Kp W u
  grown : wN.grownBy u (some rb)
  box : u.heap[wN.heap.size]? = some (.cells #[c0, c1, c2, c3, lins] 45 (0, 0))
def Ix (wN u : World) (v : Value) (l : List InsM) : Prop := OwnL CeIns 6 64 u (wN.heap.size + 1) v l
section
variable {W wN u u' : World} {rb : Nat} {s s' : RSt} {c0 c1 c2 c3 lins lins' : Value} {is : List InsM}
theorem RcF.keep (h : RcF W wN rb c0 c1 c2 c3 s lins u) (hk : Kp u u') : RcF W wN rb c0 c1 c2 c3 s lins u' :=
  ⟨h.le, h.rdr.kp hk, h.kp.trans hk, h.grown.trans (grown_kp hk _), (hk.block _ (blk_lt h.box)).trans h.box⟩
theorem Ix.keep (h : Ix wN u lins is) (hk : Kp u u') : Ix wN u' lins is := OwnL.kp CeIns.kp h hk
theorem RcF.read (h : RcF W wN rb c0 c1 c2 c3 s lins u) (a : W.heap.size ≤ rb) (b : rb < wN.heap.size) (hle : s'.b.length ≤ s.b.length) (hr : RdrB W u' rb s') (hg : u.grownBy u' (some rb)) : RcF W wN rb c0 c1 c2 c3 s' lins u' :=
  ⟨Nat.le_trans hle h.le, hr, Below.one h.kp hg a h.kp.le, h.grown.trans hg, grown_blk hg h.box (fun e => by injection e with e; omega)⟩
theorem Ix.read (h : Ix wN u lins is) (b : rb < wN.heap.size) (hg : u.grownBy u' (some rb)) : Ix wN u' lins is := ownL_above (fun _ _ x => CeIns.any x) h hg (by omega)
theorem RcF.app (h : RcF W wN rb c0 c1 c2 c3 s lins u) (a : W.heap.size ≤ rb) (b : rb < wN.heap.size) (ht : Touch 64 u u') (hb : Below (wN.heap.size + 1) u u') : RcF W wN rb c0 c1 c2 c3 s lins u' := by
  obtain ⟨A, c, hr1, hr2⟩ := h.rdr
  exact ⟨h.le, ⟨A, c, ht.2 _ _ hr1 (fun cs fr e => by injection e with _ e _; exact absurd e (by decide)), hr2⟩, Below.trans h.kp (Below.mono hb (by omega)), grown_below h.grown (Below.mono hb (by omega)), ht.2 _ _ h.box (fun cs fr e => by injection e with _ e _; exact absurd e (by decide))⟩
theorem RcF.set4 (h : RcF W wN rb c0 c1 c2 c3 s lins u) (a : W.heap.size ≤ rb) (b : rb < wN.heap.size) (v : Value) : RcF W wN rb c0 c1 c2 c3 s v (u.setCell ⟨wN.heap.size, 4, none⟩ v) := by
  obtain ⟨A, c, hr1, hr2⟩ := h.rdr
  exact ⟨h.le, ⟨A, c, (blk_far (p := ⟨wN.heap.size, 4, none⟩) (by show rb ≠ wN.heap.size; omega) v).trans hr1, hr2⟩, h.kp.setCell (p := ⟨wN.heap.size, 4, none⟩) (by show W.heap.size ≤ wN.heap.size; omega) v, grown_below h.grown ((Below.refl _ _).setCell (p := ⟨wN.heap.size, 4, none⟩) (Nat.le_refl _) v), blk_set h.box v⟩
theorem Ix.set4 (h : Ix wN u lins is) (hb : u.heap[wN.heap.size]? = some (.cells #[c0, c1, c2, c3, lins'] 45 (0, 0))) (v : Value) : Ix wN (u.setCell ⟨wN.heap.size, 4, none⟩ v) lins is := ownL_touch (e := 45) (by decide) (fun _ _ x => CeIns.any x) h (rowTouch (o := 4) hb v)
theorem RcX.set0 {w0 : World} {cb : Nat} {vf vt : Value} {fs : List FnM} (h : RcX W w0 rb cb s vf vt fs u) (K : RcK W w0 rb cb) {v : Value} {fs' : List FnM} (hv : OwnL (CeOFn w0.heap.size) 5 45 u w0.heap.size v fs') : RcX W w0 rb cb s v vt fs' (u.setCell ⟨cb, 0, none⟩ v) := by
  obtain ⟨A, c, hr1, hr2⟩ := h.rdr
  have hne : rb ≠ cb := by have := K.b; have := K.c; omega
  have ht := rowTouch (o := 0) h.box v
  exact ⟨h.le, ⟨A, c, (blk_far (p := ⟨cb, 0, none⟩) hne v).trans hr1, hr2⟩, h.kp.setCell (p := ⟨cb, 0, none⟩) (by have := K.a; have := K.b; have := K.c; show W.heap.size ≤ cb; omega) v, grown_below h.grown ((Below.refl _ _).setCell (p := ⟨cb, 0, none⟩) (Nat.le_of_lt K.c) v), blk_set h.box v, ownL_touch (by decide) (fun _ _ x => x.touch (by decide) ht) hv ht, (blk_far (p := ⟨cb, 0, none⟩) (by show w0.heap.size ≠ cb; have := K.c; omega) v).trans h.res⟩
/-- The rest of the state where a row of functions has grown. -/
theorem RcX.appF {w0 : World} {cb : Nat} {vf vt v' : Value} {fs fs' : List FnM} (h : RcX W w0 rb cb s vf vt fs u) (K : RcK W w0 rb cb) (ht : Touch 45 u u') (hb : Below w0.heap.size u u') (hv : OwnL (CeOFn w0.heap.size) 5 45 u' w0.heap.size v' fs') : RcX W w0 rb cb s v' vt fs' (u'.setCell ⟨cb, 0, none⟩ v') := by
  obtain ⟨A, c, hr1, hr2⟩ := h.rdr
  have hbx : u'.heap[cb]? = some (.cells #[vf, vt] 25 (0, 0)) := ht.2 _ _ h.box (fun cs fr e => by injection e with _ e _; exact absurd e (by decide))
  have hne : rb ≠ cb := by have := K.b; have := K.c; omega
  have hs := rowTouch (o := 0) hbx v'
  refine ⟨h.le, ⟨A, c, (blk_far (p := ⟨cb, 0, none⟩) hne v').trans (ht.2 _ _ hr1 (fun cs fr e => by injection e with _ e _; exact absurd e (by decide))), hr2⟩, ?_, ?_, blk_set hbx v', ownL_touch (by decide) (fun _ _ x => x.touch (by decide) hs) hv hs, ?_⟩
  · exact (Below.trans h.kp (Below.mono hb (by have := K.a; have := K.b; omega))).setCell (p := ⟨cb, 0, none⟩) (by have := K.a; have := K.b; have := K.c; show W.heap.size ≤ cb; omega) v'
  · exact grown_below (grown_below h.grown hb) ((Below.refl _ _).setCell (p := ⟨cb, 0, none⟩) (Nat.le_of_lt K.c) v')
  · exact (blk_far (p := ⟨cb, 0, none⟩) (by show w0.heap.size ≠ cb; have := K.c; omega) v').trans (ht.2 _ _ h.res (fun cs fr e => by injection e with _ e _; exact absurd e (by decide)))
end
theorem rep_step {α : Type} {g : RSt → α × RSt} {n : Nat} {s : RSt} (h : s.bad = false) : rep g (n + 1) s = ((g s).1 :: (rep g n (g s).2).1, (rep g n (g s).2).2) := by
  conv => lhs; unfold rep
  rw [if_neg (by rw [h]; simp)]
/-- What a loop over rep has done. -/
def RepI {α : Type} (g : RSt → α × RSt) (N : Nat) (s0 : RSt) (done : List α) (r : Nat) (s : RSt) : Prop := rep g N s0 = (done ++ (rep g r s).1, (rep g r s).2) ∧ done.length + r ≤ N
/-- The same, and what is left is no longer than at the start. -/
def RepL {α : Type} (g : RSt → α × RSt) (N : Nat) (s0 : RSt) (done : List α) (r : Nat) (s : RSt) : Prop := RepI g N s0 done r s ∧ s.b.length ≤ s0.b.length
/-- The same, and what is left is no longer than at the start. -/
theorem RepI.start {α : Type} (g : RSt → α × RSt) (N : Nat) (s0 : RSt) : RepI g N s0 [] N s0 := ⟨by simp, by simp⟩
theorem RepI.step {α : Type} {g : RSt → α × RSt} {N r : Nat} {s0 s : RSt} {done : List α} (h : RepI g N s0 done (r + 1) s) (hb : s.bad = false) : RepI g N s0 (done ++ [(g s).1]) r (g s).2 := by
  obtain ⟨h1, h2⟩ := h
  rw [rep_step hb] at h1
  exact ⟨by rw [h1]; simp, by rw [List.length_append, List.length_singleton]; omega⟩
theorem RepI.fin {α : Type} {g : RSt → α × RSt} {N r : Nat} {s0 s : RSt} {done : List α} (h : RepI g N s0 done r s) (he : r = 0 ∨ s.bad = true) : rep g N s0 = (done, s) := by
  rw [h.1]
  rcases he with rfl | hb
  · simp [rep]
  · rw [rep_bad g r s hb]; simp
theorem numR_le (s : RSt) : (numR s).2.b.length ≤ s.b.length := by
  unfold numR
  split
  · exact Nat.le_refl _
  · split
    · exact Nat.le_refl _
    · simp only [List.length_drop]; omega
theorem cntR_le (s : RSt) : (cntR s).2.b.length ≤ s.b.length := by
  unfold cntR
  split
  · exact numR_le s
  · exact numR_le s
theorem txtR_le (s : RSt) : (txtR s).2.b.length ≤ s.b.length := by
  have := cntR_le s
  unfold txtR
  simp only [List.length_drop]; omega
theorem txt_le {s : RSt} (h : s.b.length ≤ 140737488351232) : (txtR s).1.size ≤ 140737488351232 := by
  have h1 := cntR_le s
  unfold txtR
  show (((cntR s).2.b.take (cntR s).1.toNat).toArray).size ≤ _
  rw [List.size_toArray, List.length_take]; omega
/-- The same, and what is left is no longer than at the start. -/
theorem ins_len (s : RSt) : (insR s).2.b.length ≤ s.b.length := by
  unfold insR
  exact Nat.le_trans (numR_le _) (Nat.le_trans (numR_le _) (Nat.le_trans (numR_le _) (Nat.le_trans (numR_le _) (Nat.le_trans (numR_le _) (numR_le _)))))
theorem numR_okI (s : RSt) : okI (numR s).1 := by
  unfold numR
  split
  · exact ⟨by omega, by omega⟩
  · split
    · exact ⟨by omega, by omega⟩
    · rename_i u k hk
      obtain ⟨x, r, _, e2, _, _, _, hx⟩ := tk_inv _ _ _ _ _ hk
      refine unzig_ok u ?_
      have : u = x := by rw [e2]; simp
      rw [this]; simpa using hx
theorem insR_okI (s : RSt) : okIns (insR s).1 := ⟨numR_okI _, numR_okI _, numR_okI _, numR_okI _, numR_okI _, numR_okI _⟩
theorem fn_len (s : RSt) : (fnR s).2.b.length ≤ s.b.length := by
  have hr : ∀ (n : Nat) (s : RSt), (rep insR n s).2.b.length ≤ s.b.length := by
    intro n
    induction n with
    | zero => intro s; exact Nat.le_refl _
    | succ n ih =>
      intro s
      unfold rep
      split
      · exact Nat.le_refl _
      · exact Nat.le_trans (ih _) (ins_len _)
  unfold fnR
  exact Nat.le_trans (hr _ _) (Nat.le_trans (cntR_le _) (Nat.le_trans (numR_le _) (Nat.le_trans (numR_le _) (Nat.le_trans (numR_le _) (txtR_le _)))))
theorem rep_le {α : Type} {g : RSt → α × RSt} (hg : ∀ s, (g s).2.b.length ≤ s.b.length) {N r : Nat} {s0 s : RSt} {S : RSt} {done : List α} (h : RepL g N s0 done r s) (h0 : s0.b.length ≤ S.b.length) : s.b.length ≤ S.b.length := Nat.le_trans h.2 h0
theorem code_end {W w u : World} {rb cb n0 cf ct : Nat} {Af At : Option Addr} {s : RSt} {fs : List FnM} {ts : List ByteArray} (h : RcX W w rb cb s (.slice Af fs.length cf) (.slice At ts.length ct) fs u) (ht : Tx w u (.slice At ts.length ct) ts) (hn : w.heap.size = n0) (K : RcK W w rb cb) (b1 : fs.length ≤ 1073741824) (b2 : ts.length ≤ 1073741824) :
    (∃ v, Ending.returned (.agg #[.slice Af fs.length cf, .slice At ts.length ct]) = .returned v ∧ OCode ((u.setCell ⟨n0, 0, none⟩ (.slice Af fs.length cf)).setCell ⟨n0, 1, none⟩ (.slice At ts.length ct)) w.heap.size v ⟨fs, ts⟩) ∧ RdrB W ((u.setCell ⟨n0, 0, none⟩ (.slice Af fs.length cf)).setCell ⟨n0, 1, none⟩ (.slice At ts.length ct)) rb s ∧ w.grownBy ((u.setCell ⟨n0, 0, none⟩ (.slice Af fs.length cf)).setCell ⟨n0, 1, none⟩ (.slice At ts.length ct)) (some rb) := by
  have hres := h.res
  rw [hn] at hres
  have t1 := rowTouch (o := 0) hres (.slice Af fs.length cf)
  have t2 := rowTouch (o := 1) (blk_set (o := 0) hres (.slice Af fs.length cf)) (.slice At ts.length ct)
  have t := t1.trans t2
  obtain ⟨A, c, hr1, hr2⟩ := h.rdr
  refine ⟨⟨_, rfl, _, _, rfl, ownL_touch (by decide) (fun _ _ x => x.touch (by decide) t) h.fns t, ownL_touch (by decide) (fun _ _ x => CeStr.any x) ht t, by show fs.length * 64 ≤ _; omega, by show ts.length * 16 ≤ _; omega⟩, ⟨A, c, t.2 _ _ hr1 (fun cs fr e => by injection e with _ e _; exact absurd e (by decide)), hr2⟩, grown_below h.grown (((Below.refl _ _).setCell (p := ⟨n0, 0, none⟩) (by show w.heap.size ≤ n0; omega) _).setCell (p := ⟨n0, 1, none⟩) (by show w.heap.size ≤ n0; omega) _)⟩
set_option maxRecDepth 20000 in
set_option maxHeartbeats 16000000 in
theorem rcode_any (W w : World) (rb : Nat) (s : RSt) (h : RdrB W w rb s) (hk : Kp W w) (hrb : W.heap.size ≤ rb) (hsz : s.b.length ≤ 1073741824) :
    Calls Try.prog 29 #[.pointer (some ⟨rb, 0, none⟩)] w fun e w' => (∃ v, e = .returned v ∧ OCode w' w.heap.size v (codeR s).1) ∧ RdrB W w' rb (codeR s).2 ∧ w.grownBy w' (some rb) := by
  obtain ⟨cb, hcb⟩ : ∃ cb, w.heap.size + 1 = cb := ⟨_, rfl⟩
  have HK := hid (show RcK W w rb cb from ⟨hrb, by obtain ⟨A, c, h1, _⟩ := h; exact blk_lt h1, by omega⟩)
  have HX0 : Hid (RcX W w rb cb s (.slice none 0 0) (.slice none 0 0) [] ((w.alloc (.cells #[.slice none 0 0, .slice none 0 0] 25)).alloc (.cells #[.slice none 0 0, .slice none 0 0] 25))) := hid ⟨hsz, (h.kp ((Kp.refl _).alloc _)).kp ((Kp.refl _).alloc _), (hk.alloc _).alloc _, grown_kp (((Kp.refl _).alloc _).alloc _) _, by rw [← hcb]; have h := blk_new (w.alloc (.cells #[.slice none 0 0, .slice none 0 0] 25)) (.cells #[.slice none 0 0, .slice none 0 0] 25); rw [World.size_alloc] at h; exact h, OwnL.nil _ _ _ _ _, blk_old (blk_new w _) _⟩
  have HSZ := hid hsz
  have hcl := cntR_range s
  obtain ⟨N, hN⟩ : ∃ N : Nat, (cntR s).1 = N := ⟨(cntR s).1.toNat, by omega⟩
  have hcb2 : (cntR s).2.b.length ≤ s.b.length := cntR_le s
  have HNL := hid (show N ≤ 1073741824 ∧ (cntR s).2.b.length ≤ 1073741824 by omega)
  have HN := hid hN
  clear hsz hcl hcb2 h hk
  go_enter Try.func29, Try.ntmps29
  go_wp2_with fail
  generalize ((w.alloc (.cells #[.slice none 0 0, .slice none 0 0] 25)).alloc (.cells #[.slice none 0 0, .slice none 0 0] 25)) = W1 at HX0 ⊢
  generalize hn0 : w.heap.size = n0
  have HN0 := hid hn0
  clear hcb hn0 hN
  refine (rcnt_any W W1 rb s HX0.out.rdr HX0.out.kp).mono ?_
  rintro e w2 ⟨rfl, hr2, hg2⟩
  rw [HN.out]
  have HX2 := hid (HX0.out.read HK.out (cntR_le s) hr2 hg2)
  clear hr2 hg2
  dsimp only
  go_wp2_with fail
  go_loopw [4] (fun x wr => ∃ (r : Nat) (s1 : RSt) (ts : List ByteArray) (A : Option Addr) (cc : Nat), x = .int .i64 (r : Int) ∧ RepI txtR N (cntR s).2 ts r s1 ∧ RcX W w rb cb s1 (.slice none 0 0) (.slice A ts.length cc) [] wr ∧ Tx w wr (.slice A ts.length cc) ts) (fun x _ => (intOf x).toNat)
  case atStart => exact ⟨N, (cntR s).2, [], none, 0, rfl, RepI.start _ _ _, HX2.out, OwnL.nil _ _ _ _ _⟩
  case round =>
    obtain ⟨r, s1, ts, At, ct, rfl, hrep, hx, htx⟩ := hrel
    have HX := hid hx
    have HT := hid htx
    have HREP := hid hrep
    obtain ⟨Ar, cr, hrb1, _⟩ := hx.rdr
    have c1 := blk_cell (o := 1) (v := Value.bool s1.bad) hrb1 rfl
    have clt := blk_lt hrb1
    by_cases hgo : 0 < r ∧ s1.bad = false
    · obtain ⟨hr0, hbad⟩ := hgo
      obtain ⟨r, rfl⟩ : ∃ r', r = r' + 1 := ⟨r - 1, by omega⟩
      rw [hbad] at c1
      have i1 : (0 : Int) < ((r + 1 : Nat) : Int) := by omega
      have HRW := hid (show wr.heap.size ≤ wr.heap.size ∧ rb < wr.heap.size ∧ cb < wr.heap.size ∧ w.heap.size ≤ wr.heap.size from ⟨Nat.le_refl _, blk_lt hrb1, blk_lt hx.box, hx.grown.size⟩)
      have BF := hid (show ∀ g, (Value.slice At ts.length ct).ownBlock = some g → g < wr.heap.size by obtain ⟨xs, q, _⟩ := htx; exact fun g hg => (q.lt g hg).2)
      have B1 := hid (show ts.length + 1 ≤ maxLen by have := hrep.2; have := HNL.out; unfold maxLen; omega)
      have B2 := hid (show (ts.length + 1) * 16 ≤ 140737488355328 by have := hrep.2; have := HNL.out; omega)
      have HNX := hid (hrep.step hbad)
      have k1 : IntKind.i64.wrap (((r + 1 : Nat) : Int) - 1) = (r : Int) := by have := hrep.2; have := HNL.out; rw [IntKind.wrap_i64]; omega
      clear hrep hx htx hrb1 hr0 hbad
      generalize hrr : ((r + 1 : Nat) : Int) = ri at i1 k1 ⊢
      have HRR := hid hrr
      clear hrr
      go_upto_region 5 with fail
      clear c1 clt
      refine wp_region_phase [3, 5, 7] [(0, 1), (0, 1), (0, 0), (0, 0), (1, 1), (0, 0), (0, 2), (0, 0)] (KpF wr.heap.size) [[], [0], [], [2], [3], [1, 4], [], [5, 6]]
        (fun (p : Nat) (x : Nat → Value) (u : World) => match p with | 0 => RcX W w rb cb s1 (.slice none 0 0) (.slice At ts.length ct) [] u ∧ Tx w u (.slice At ts.length ct) ts ∧ wr.heap.size ≤ u.heap.size | 1 => RcX W w rb cb (txtR s1).2 (.slice none 0 0) (.slice At ts.length ct) [] u ∧ Tx w u (.slice At ts.length ct) ts ∧ wr.heap.size ≤ u.heap.size | 2 => RcX W w rb cb (txtR s1).2 (.slice none 0 0) (.slice At ts.length ct) [] u ∧ (∃ A c, x 5 = .slice A (ts.length + 1) c ∧ Tx w u (.slice A (ts.length + 1) c) (ts ++ [(txtR s1).1])) ∧ wr.heap.size ≤ u.heap.size | _ => ∃ A c, RcX W w rb cb (txtR s1).2 (.slice none 0 0) (.slice A (ts.length + 1) c) [] u ∧ Tx w u (.slice A (ts.length + 1) c) (ts ++ [(txtR s1).1]))
        [fun (y : Value) (u : World) => y = (.pointer (some ⟨cb, 1, none⟩) : Value),
         fun (y : Value) (u : World) => y = (.slice At ts.length ct : Value),
         fun (y : Value) (u : World) => y = (.pointer (some ⟨rb, 0, none⟩) : Value),
         fun (y : Value) (u : World) => y = (.string (txtR s1).1 : Value),
         fun (y : Value) (u : World) => LitAt wr.heap.size 9 #[.string (txtR s1).1] y u,
         fun (y : Value) (u : World) => True,
         fun (y : Value) (u : World) => y = (.pointer (some ⟨cb, 1, none⟩) : Value),
         fun (y : Value) (u : World) => True]
        (by kernel_rfl) (by kernel_rfl) (by kernel_rfl) (by kernel_rfl) (by kernel_rfl) (by kernel_rfl) (fun _ _ hk => KpF.of_kp hk) (⟨HX.out.keep (Kp.refl _).drew, HT.out.keep (Kp.refl _).drew, Nat.le_refl _⟩) ?hKb ?hXb ⟨fun _ _ _ _ h => h, fun _ _ _ _ h => h, fun _ _ _ _ h => h, fun _ _ _ _ h => h, fun _ _ _ hk h => h.keep hk, fun _ _ _ _ _ => trivial, fun _ _ _ _ h => h, fun _ _ _ _ _ => trivial, trivial⟩ ⟨?sb0, ?sb1, ?sb2, ?sb3, ?sb4, ?sb5, ?sb6, ?sb7, trivial⟩ ?hEb
      case hKb =>
        intro p x w w' hk h
        rcases p with _ | _ | _ | p
        · exact ⟨h.1.keep hk, h.2.1.keep hk, Nat.le_trans h.2.2 hk.le⟩
        · exact ⟨h.1.keep hk, h.2.1.keep hk, Nat.le_trans h.2.2 hk.le⟩
        · exact ⟨h.1.keep hk, (by obtain ⟨A, c, h1, h2⟩ := h.2.1; exact ⟨A, c, h1, h2.keep hk⟩), Nat.le_trans h.2.2 hk.le⟩
        · exact (by obtain ⟨A, c, h1, h2⟩ := h; exact ⟨A, c, h1.keep hk, h2.keep hk⟩)
      case hXb =>
        intro p x i v w hi h
        have e0 : upd x i v 3 = x 3 := if_neg (fun hh => hi (by rw [← hh]; decide))
        have e1 : upd x i v 5 = x 5 := if_neg (fun hh => hi (by rw [← hh]; decide))
        have e2 : upd x i v 7 = x 7 := if_neg (fun hh => hi (by rw [← hh]; decide))
        rcases p with _ | _ | _ | p
        · first | exact h | (simp only [e0, e1, e2]; exact h)
        · first | exact h | (simp only [e0, e1, e2]; exact h)
        · first | exact h | (simp only [e0, e1, e2]; exact h)
        · first | exact h | (simp only [e0, e1, e2]; exact h)
      case sb0 =>
        refine OpStepQ.off 0 1 (by kernel_rfl) (by kernel_rfl) ?_
        intro x u p hp hg hd K hK
        clear hd
        refine ⟨?_⟩
        simp only [putsFrom, Act.put, List.setIfInBounds_toArray, List.set_cons_zero, List.set_cons_succ, Nat.reduceAdd] at hK ⊢
        go_simp
        exact hK.out _ _ (Kp.refl _) rfl
      case sb1 =>
        refine OpStepQ.off 0 1 (by kernel_rfl) (by kernel_rfl) ?_
        intro x u p hp hg hd K hK
        have d0 : (x 0) = .pointer (some ⟨cb, 1, none⟩) := And.left hd
        clear hd
        have hb : u.heap[cb]? = some (.cells #[.slice none 0 0, .slice At ts.length ct] 25 (0, 0)) := by
          rcases p with _ | _ | _ | p
          · exact hg.1.box
          · exact hg.1.box
          · exact hg.1.box
          · omega
        have q := blk_cell (o := 1) (v := Value.slice At ts.length ct) hb rfl
        clear hb hg
        refine ⟨?_⟩
        simp only [putsFrom, Act.put, List.setIfInBounds_toArray, List.set_cons_zero, List.set_cons_succ, Nat.reduceAdd, d0] at hK ⊢
        go_simp
        exact hK.out _ _ (Kp.refl _) rfl
      case sb2 =>
        refine OpStepQ.off 0 0 (by kernel_rfl) (by kernel_rfl) ?_
        intro x u p hp hg hd K hK
        obtain rfl : p = 0 := by omega
        change RcX W w rb cb s1 (.slice none 0 0) (.slice At ts.length ct) [] u ∧ Tx w u (.slice At ts.length ct) ts ∧ wr.heap.size ≤ u.heap.size at hg
        clear hd
        refine ⟨?_⟩
        simp only [putsFrom, Act.put, List.setIfInBounds_toArray, List.set_cons_zero, List.set_cons_succ, Nat.reduceAdd] at hK ⊢
        go_simp
        exact hK.out _ _ (Kp.refl _) rfl
      case sb3 =>
        refine OpStepQ.on 0 (by kernel_rfl) (by kernel_rfl) ?_
        intro x u hg hd K hK
        change RcX W w rb cb s1 (.slice none 0 0) (.slice At ts.length ct) [] u ∧ Tx w u (.slice At ts.length ct) ts ∧ wr.heap.size ≤ u.heap.size at hg
        have d2 : (x 2) = .pointer (some ⟨rb, 0, none⟩) := And.left hd
        clear hd
        refine ⟨?_⟩
        simp only [putsFrom, Act.put, List.setIfInBounds_toArray, List.set_cons_zero, List.set_cons_succ, Nat.reduceAdd, d2] at hK ⊢
        go_simp
        go_at_call 45
        have hc := (rtxt_any W u rb s1 hg.1.rdr hg.1.kp HK.out.a)
        refine hc.mono ?_
        clear hc
        rintro e u' ⟨rfl, hr, hgr⟩
        dsimp only
        exact hK.out _ _ (KpF.of_grown hgr (fun g hg => by injection hg with hg; have := HRW.out; omega)) ⟨hg.1.read HK.out (txtR_le s1) hr hgr, hg.2.1.read HK.out hgr, Nat.le_trans hg.2.2 hgr.size⟩ rfl
      case sb4 =>
        refine OpStepQ.off 1 1 (by kernel_rfl) (by kernel_rfl) ?_
        intro x u p hp hg hd K hK
        obtain rfl : p = 1 := by omega
        change RcX W w rb cb (txtR s1).2 (.slice none 0 0) (.slice At ts.length ct) [] u ∧ Tx w u (.slice At ts.length ct) ts ∧ wr.heap.size ≤ u.heap.size at hg
        have d3 : (x 3) = .string (txtR s1).1 := And.left hd
        clear hd
        refine ⟨?_⟩
        simp only [putsFrom, Act.put, List.setIfInBounds_toArray, List.set_cons_zero, List.set_cons_succ, Nat.reduceAdd, d3] at hK ⊢
        go_simp
        exact hK.out _ _ ((Kp.refl _).alloc _) ⟨_, rfl, hg.2.2, blk_new _ _⟩
      case sb5 =>
        refine OpStepQ.on 1 (by kernel_rfl) (by kernel_rfl) ?_
        intro x u hg hd K hK
        change RcX W w rb cb (txtR s1).2 (.slice none 0 0) (.slice At ts.length ct) [] u ∧ Tx w u (.slice At ts.length ct) ts ∧ wr.heap.size ≤ u.heap.size at hg
        have d1 : (x 1) = .slice At ts.length ct := And.left hd
        have d4 : LitAt wr.heap.size 9 #[.string (txtR s1).1] (x 4) u := And.left (And.right hd)
        clear hd
        obtain ⟨b, e6, hb6, hlit⟩ := d4
        obtain ⟨xs, l1, l2⟩ := hg.2.1
        refine ⟨?_⟩
        simp only [putsFrom, Act.put, List.setIfInBounds_toArray, List.set_cons_zero, List.set_cons_succ, Nat.reduceAdd, d1, e6] at hK ⊢
        rw [if_pos (by simp [Region.wanted])]
        refine wp_appP elStrW (.tmp 22) (.tmp 25) (by rfl) l1 (by rfl) [.string (txtR s1).1] _ 1 1 (by rfl) rfl (fun _ => ⟨_, rfl, lit_src hlit⟩) (by intro u hu; simp at hu; subst hu; rfl) B1.out B2.out (Nat.le_trans HRW.out.2.2.2 hg.2.2) ?_
        intro v' w' G1 G2 G3 G4
        obtain ⟨A', c', rfl⟩ := own_form G1
        exact hK.out _ w' (KpF.of_grown G2 BF.out) ⟨hg.1.app HK.out (Touch.of_grown l1 G2) G4 (by decide) (by decide) (by decide) (by decide), ⟨A', c', rfl, OwnL.snoc (n := ts.length + 1) rfl l2 (fun _ _ h => CeStr.any h) ⟨rfl, txt_le (by have := HX.out.le; omega)⟩ rfl G1⟩, Nat.le_trans hg.2.2 G2.size⟩ trivial
      case sb6 =>
        refine OpStepQ.off 0 2 (by kernel_rfl) (by kernel_rfl) ?_
        intro x u p hp hg hd K hK
        clear hd
        refine ⟨?_⟩
        simp only [putsFrom, Act.put, List.setIfInBounds_toArray, List.set_cons_zero, List.set_cons_succ, Nat.reduceAdd] at hK ⊢
        go_simp
        exact hK.out _ _ (Kp.refl _) rfl
      case sb7 =>
        refine OpStepQ.on 2 (by kernel_rfl) (by kernel_rfl) ?_
        intro x u hg hd K hK
        change RcX W w rb cb (txtR s1).2 (.slice none 0 0) (.slice At ts.length ct) [] u ∧ (∃ A c, x 5 = .slice A (ts.length + 1) c ∧ Tx w u (.slice A (ts.length + 1) c) (ts ++ [(txtR s1).1])) ∧ wr.heap.size ≤ u.heap.size at hg
        have d6 : (x 6) = .pointer (some ⟨cb, 1, none⟩) := And.left (And.right hd)
        clear hd
        obtain ⟨hg1, ⟨A7, c7, e7, hg2⟩, hg3⟩ := hg
        have hb := hg1.box
        have q := blk_cell (o := 1) (v := Value.slice At ts.length ct) hb rfl
        have qf := blk_free (o := 1) hb
        have HG1 := hid hg1
        have HG2 := hid (hg2.set1 hb 1 (.slice A7 (ts.length + 1) c7))
        have HG3 := hid hg3
        clear hb hg1 hg2 hg3
        refine ⟨?_⟩
        simp only [putsFrom, Act.put, List.setIfInBounds_toArray, List.set_cons_zero, List.set_cons_succ, Nat.reduceAdd, d6, e7] at hK ⊢
        go_simp
        exact hK.out undef _ (KpF.setCell HRW.out.2.2.1 _) ⟨A7, c7, HG1.out.set1 HK.out _, HG2.out⟩ trivial
      intro x u hg he
      have d0 : (x 0) = .pointer (some ⟨cb, 1, none⟩) := And.left he
      have d1 : (x 1) = .slice At ts.length ct := And.left (And.right he)
      have d2 : (x 2) = .pointer (some ⟨rb, 0, none⟩) := And.left (And.right (And.right he))
      have d3 : (x 3) = .string (txtR s1).1 := And.left (And.right (And.right (And.right he)))
      have d4 : LitAt wr.heap.size 9 #[.string (txtR s1).1] (x 4) u := And.left (And.right (And.right (And.right (And.right he))))
      have d6 : (x 6) = .pointer (some ⟨cb, 1, none⟩) := And.left (And.right (And.right (And.right (And.right (And.right (And.right he))))))
      clear he
      change ∃ A c, RcX W w rb cb (txtR s1).2 (.slice none 0 0) (.slice A (ts.length + 1) c) [] u ∧ Tx w u (.slice A (ts.length + 1) c) (ts ++ [(txtR s1).1]) at hg
      refine ⟨?_⟩
      simp only [putsFrom, Act.put, List.setIfInBounds_toArray, List.set_cons_zero, List.set_cons_succ, Nat.reduceAdd, d0, d1, d2, d3, d6]
      clear d0 d1 d2 d3 d6
      obtain ⟨A7, c7, hX7, hT7⟩ := hg
      have HX7 := hid hX7
      have HT7 := hid hT7
      clear hX7 hT7
      go_wp2
      exact ⟨⟨r, (txtR s1).2, ts ++ [(txtR s1).1], A7, c7, rfl, HNX.out, by rw [List.length_append]; exact HX7.out, by rw [List.length_append]; exact HT7.out⟩, by rw [← HRR.out]; simp only [intOf, Int.toNat_natCast]; omega⟩
    · have hor : r = 0 ∨ (0 < r ∧ s1.bad = true) := by
        rcases Nat.eq_zero_or_pos r with h | h
        · exact .inl h
        · cases hq : s1.bad with
          | false => exact absurd ⟨h, hq⟩ hgo
          | true => exact .inr ⟨h, rfl⟩
      have HFIN := hid (hrep.fin (by rcases hor with h | h; exact .inl h; exact .inr h.2))
      clear hgo hrep hx htx hrb1
      rcases hor with rfl | ⟨hr0, hbad⟩
      · go_upto_region 6 with fail
        obtain ⟨wo, hwo⟩ : ∃ x, x = wr := ⟨_, rfl⟩
        subst hwo
        have hcl := cntR_range s1
        obtain ⟨M, hM⟩ : ∃ M : Nat, (cntR s1).1 = M := ⟨(cntR s1).1.toNat, by omega⟩
        have HML := hid (show M ≤ 1073741824 by have := cntR_le s1; have := HX.out.le; omega)
        have HM := hid hM
        have HTL := hid (show ts.length ≤ 1073741824 by have := HREP.out.2; have := HNL.out; omega)
        clear hcl hM c1 clt
        go_wp2_with (go_at_call 44; go_must (refine (rcnt_any W wo rb s1 HX.out.rdr HX.out.kp).mono ?_); rintro e w3 ⟨rfl, hr3, hg3⟩; rw [HM.out]; have HX3 := hid (HX.out.read HK.out (cntR_le s1) hr3 hg3); have HT3 := hid (HT.out.read HK.out hg3); clear hr3 hg3)
        go_loopw [5] (fun x wr => ∃ (r : Nat) (s2 : RSt) (fs : List FnM) (A : Option Addr) (cc : Nat), x = .int .i64 (r : Int) ∧ RepI fnR M (cntR s1).2 fs r s2 ∧ RcX W w rb cb s2 (.slice A fs.length cc) (.slice At ts.length ct) fs wr ∧ Tx w wr (.slice At ts.length ct) ts) (fun x _ => (intOf x).toNat)
        case atStart => exact ⟨M, (cntR s1).2, [], none, 0, rfl, RepI.start _ _ _, HX3.out, HT3.out⟩
        case round =>
          obtain ⟨wf, hwf⟩ : ∃ x, x = wr := ⟨_, rfl⟩
          subst hwf
          obtain ⟨r, s2, fs, Af, cf, rfl, hrep2, hx, htx⟩ := hrel
          have HXF := hid hx
          have HTF := hid htx
          have HBDS := hid (show fs.length ≤ 1073741824 ∧ ts.length ≤ 1073741824 from ⟨by have := hrep2.2; have := HML.out; omega, HTL.out⟩)
          obtain ⟨Ar2, cr2, hrb2, _⟩ := hx.rdr
          have c1 := blk_cell (o := 1) (v := Value.bool s2.bad) hrb2 rfl
          have clt := blk_lt hrb2
          by_cases hgo : 0 < r ∧ s2.bad = false
          · obtain ⟨hr0, hbad⟩ := hgo
            obtain ⟨r, rfl⟩ : ∃ r', r = r' + 1 := ⟨r - 1, by omega⟩
            rw [hbad] at c1
            have i1 : (0 : Int) < ((r + 1 : Nat) : Int) := by omega
            have HNX := hid (hrep2.step hbad)
            have HB63 := hid (show fs.length + 1 ≤ maxLen by have := hrep2.2; have := HML.out; unfold maxLen; omega)
            have HB64 := hid (show (fs.length + 1) * 64 ≤ 140737488355328 by have := hrep2.2; have := HML.out; omega)
            have k1 : IntKind.i64.wrap (((r + 1 : Nat) : Int) - 1) = (r : Int) := by have := hrep2.2; have := HML.out; rw [IntKind.wrap_i64]; omega
            clear hrep2 hx htx hrb2 hr0 hbad
            generalize hrr : ((r + 1 : Nat) : Int) = ri at i1 k1 ⊢
            have HRR := hid hrr
            clear hrr
            go_upto_region 9 with fail
            clear c1 clt i1
            have HCUR := hid (And.intro HXF.out HTF.out)
            go_upto_region 10 with first | (go_at_call 45; go_must (refine (rtxt_any W _ rb s2 HXF.out.rdr HXF.out.kp HK.out.a).mono ?_); rintro e w5 ⟨rfl, hr4, hg4⟩; have HCUR := hid (And.intro (HXF.out.read HK.out (txtR_le s2) hr4 hg4) (HTF.out.read HK.out hg4)); clear hr4 hg4) | (go_at_call 46; go_must (refine (rnum_any W _ rb _ HCUR.out.1.rdr HCUR.out.1.kp).mono ?_); rintro e w5 ⟨rfl, hr4, hg4⟩; have HCUR := hid (And.intro (HCUR.out.1.read HK.out (numR_le _) hr4 hg4) (HCUR.out.2.read HK.out hg4)); clear hr4 hg4)
            obtain ⟨wN, hwN⟩ : ∃ x, x = w5 := ⟨_, rfl⟩
            subst hwN
            have HXN : Hid (RcX W w rb cb (numR (numR (numR (txtR s2).2).2).2).2 (.slice Af fs.length cf) (.slice At ts.length ct) fs wN ∧ Tx w wN (.slice At ts.length ct) ts) := hid HCUR.out
            have HF0 : Hid (RcF W wN rb (.string (txtR s2).1) (.int .i64 (numR (txtR s2).2).1) (.int .i64 (numR (numR (txtR s2).2).2).1) (.int .i64 (numR (numR (numR (txtR s2).2).2).2).1) (numR (numR (numR (txtR s2).2).2).2).2 (.slice none 0 0) (wN.alloc (.cells #[.string (txtR s2).1, .int .i64 (numR (txtR s2).2).1, .int .i64 (numR (numR (txtR s2).2).2).1, .int .i64 (numR (numR (numR (txtR s2).2).2).2).1, .slice none 0 0] 45))) := hid ⟨HXN.out.1.le, HXN.out.1.rdr.kp ((Kp.refl _).alloc _), HXN.out.1.kp.alloc _, grown_kp ((Kp.refl _).alloc _) _, blk_new _ _⟩
            have HNB := hid (show rb < wN.heap.size by have := HK.out.b; have := HXN.out.1.grown.size; omega)
            generalize wN.alloc (.cells #[.string (txtR s2).1, .int .i64 (numR (txtR s2).2).1, .int .i64 (numR (numR (txtR s2).2).2).1, .int .i64 (numR (numR (numR (txtR s2).2).2).2).1, .slice none 0 0] 45) = W7 at HF0 ⊢
            generalize hnf : wN.heap.size = nf
            have HNF := hid hnf
            clear hnf
            have hcl := cntR_range (numR (numR (numR (txtR s2).2).2).2).2
            obtain ⟨L, hL⟩ : ∃ L : Nat, (cntR (numR (numR (numR (txtR s2).2).2).2).2).1 = L := ⟨(cntR (numR (numR (numR (txtR s2).2).2).2).2).1.toNat, by omega⟩
            have HLL := hid (show L ≤ 1073741824 by have := cntR_le (numR (numR (numR (txtR s2).2).2).2).2; have := HXN.out.1.le; omega)
            have HLN := hid hL
            clear hcl hL
            go_wp2_with (go_at_call 44; go_must (refine (rcnt_any W W7 rb (numR (numR (numR (txtR s2).2).2).2).2 HF0.out.rdr HF0.out.kp).mono ?_); rintro e w8 ⟨rfl, hr8, hg8⟩; rw [HLN.out]; have HF8 := hid (HF0.out.read HK.out.a HNB.out (cntR_le _) hr8 hg8); clear hr8 hg8)
            go_loopw [7] (fun x wr => ∃ (r : Nat) (s3 : RSt) (is : List InsM) (A : Option Addr) (cc : Nat), x = .int .i64 (r : Int) ∧ RepL insR L (cntR (numR (numR (numR (txtR s2).2).2).2).2).2 is r s3 ∧ RcF W wN rb (.string (txtR s2).1) (.int .i64 (numR (txtR s2).2).1) (.int .i64 (numR (numR (txtR s2).2).2).1) (.int .i64 (numR (numR (numR (txtR s2).2).2).2).1) s3 (.slice A is.length cc) wr ∧ Ix wN wr (.slice A is.length cc) is) (fun x _ => (intOf x).toNat)
            case atStart => exact ⟨L, (cntR (numR (numR (numR (txtR s2).2).2).2).2).2, [], none, 0, rfl, ⟨RepI.start _ _ _, Nat.le_refl _⟩, HF8.out, OwnL.nil _ _ _ _ _⟩
            case round =>
              obtain ⟨wt, hwt⟩ : ∃ x, x = wr := ⟨_, rfl⟩
              subst hwt
              obtain ⟨r3, s3, is, Ai, ci, rfl, hrep3, hx3, hix3⟩ := hrel
              have HF3 := hid hx3
              have HI3 := hid hix3
              have HLE3 := hid (show s3.b.length ≤ (numR (numR (numR (txtR s2).2).2).2).2.b.length from rep_le (fun s => ins_len s) hrep3 (cntR_le (numR (numR (numR (txtR s2).2).2).2).2))
              obtain ⟨Ar3, cr3, hrb3, _⟩ := hx3.rdr
              have c1 := blk_cell (o := 1) (v := Value.bool s3.bad) hrb3 rfl
              have clt := blk_lt hrb3
              by_cases hgo : 0 < r3 ∧ s3.bad = false
              · obtain ⟨hr0, hbad⟩ := hgo
                obtain ⟨r3, rfl⟩ : ∃ r', r3 = r' + 1 := ⟨r3 - 1, by omega⟩
                rw [hbad] at c1
                have i1 : (0 : Int) < ((r3 + 1 : Nat) : Int) := by omega
                have HRW := hid (show rb < wt.heap.size ∧ nf < wt.heap.size ∧ wN.heap.size + 1 ≤ wt.heap.size from ⟨blk_lt hrb3, by have h := blk_lt hx3.box; rw [HNF.out] at h; exact h, blk_lt hx3.box⟩)
                have BF := hid (show ∀ g, (Value.slice Ai is.length ci).ownBlock = some g → g < wt.heap.size by obtain ⟨xs, q, _⟩ := hix3; exact fun g hg => (q.lt g hg).2)
                have B1 := hid (show is.length + 1 ≤ maxLen by have := hrep3.1.2; have := HLL.out; unfold maxLen; omega)
                have B2 := hid (show (is.length + 1) * 48 ≤ 140737488355328 by have := hrep3.1.2; have := HLL.out; omega)
                have HNX3 := hid (And.intro (hrep3.1.step hbad) (Nat.le_trans (ins_len s3) hrep3.2))
                have k1 : IntKind.i64.wrap (((r3 + 1 : Nat) : Int) - 1) = (r3 : Int) := by have := hrep3.1.2; have := HLL.out; rw [IntKind.wrap_i64]; omega
                clear hrep3 hx3 hix3 hrb3 hr0 hbad
                generalize hrr : ((r3 + 1 : Nat) : Int) = ri at i1 k1 ⊢
                have HRR3 := hid hrr
                clear hrr
                go_upto_region 13 with fail
                clear c1 clt
                refine wp_region_phase [3, 5, 7, 9, 11, 13, 16, 18] [(0, 6), (0, 6), (0, 0), (0, 0), (0, 1), (0, 0), (0, 2), (0, 0), (0, 3), (0, 0), (0, 4), (0, 0), (0, 5), (0, 0), (6, 6), (6, 6), (0, 0), (0, 7), (0, 0)] (KpF wt.heap.size) [[], [0], [], [2], [], [3, 4], [], [5, 6], [], [7, 8], [], [9, 10], [], [11, 12], [3, 5, 7, 9, 11, 13], [14], [1, 15], [], [16, 17]]
                  (fun (p : Nat) (x : Nat → Value) (u : World) => match p with | 0 => RcF W wN rb (.string (txtR s2).1) (.int .i64 (numR (txtR s2).2).1) (.int .i64 (numR (numR (txtR s2).2).2).1) (.int .i64 (numR (numR (numR (txtR s2).2).2).2).1) s3 (.slice Ai is.length ci) u ∧ Ix wN u (.slice Ai is.length ci) is ∧ wt.heap.size ≤ u.heap.size | 1 => RcF W wN rb (.string (txtR s2).1) (.int .i64 (numR (txtR s2).2).1) (.int .i64 (numR (numR (txtR s2).2).2).1) (.int .i64 (numR (numR (numR (txtR s2).2).2).2).1) (numR s3).2 (.slice Ai is.length ci) u ∧ Ix wN u (.slice Ai is.length ci) is ∧ wt.heap.size ≤ u.heap.size | 2 => RcF W wN rb (.string (txtR s2).1) (.int .i64 (numR (txtR s2).2).1) (.int .i64 (numR (numR (txtR s2).2).2).1) (.int .i64 (numR (numR (numR (txtR s2).2).2).2).1) (numR (numR s3).2).2 (.slice Ai is.length ci) u ∧ Ix wN u (.slice Ai is.length ci) is ∧ wt.heap.size ≤ u.heap.size | 3 => RcF W wN rb (.string (txtR s2).1) (.int .i64 (numR (txtR s2).2).1) (.int .i64 (numR (numR (txtR s2).2).2).1) (.int .i64 (numR (numR (numR (txtR s2).2).2).2).1) (numR (numR (numR s3).2).2).2 (.slice Ai is.length ci) u ∧ Ix wN u (.slice Ai is.length ci) is ∧ wt.heap.size ≤ u.heap.size | 4 => RcF W wN rb (.string (txtR s2).1) (.int .i64 (numR (txtR s2).2).1) (.int .i64 (numR (numR (txtR s2).2).2).1) (.int .i64 (numR (numR (numR (txtR s2).2).2).2).1) (numR (numR (numR (numR s3).2).2).2).2 (.slice Ai is.length ci) u ∧ Ix wN u (.slice Ai is.length ci) is ∧ wt.heap.size ≤ u.heap.size | 5 => RcF W wN rb (.string (txtR s2).1) (.int .i64 (numR (txtR s2).2).1) (.int .i64 (numR (numR (txtR s2).2).2).1) (.int .i64 (numR (numR (numR (txtR s2).2).2).2).1) (numR (numR (numR (numR (numR s3).2).2).2).2).2 (.slice Ai is.length ci) u ∧ Ix wN u (.slice Ai is.length ci) is ∧ wt.heap.size ≤ u.heap.size | 6 => RcF W wN rb (.string (txtR s2).1) (.int .i64 (numR (txtR s2).2).1) (.int .i64 (numR (numR (txtR s2).2).2).1) (.int .i64 (numR (numR (numR (txtR s2).2).2).2).1) (numR (numR (numR (numR (numR (numR s3).2).2).2).2).2).2 (.slice Ai is.length ci) u ∧ Ix wN u (.slice Ai is.length ci) is ∧ wt.heap.size ≤ u.heap.size | 7 => RcF W wN rb (.string (txtR s2).1) (.int .i64 (numR (txtR s2).2).1) (.int .i64 (numR (numR (txtR s2).2).2).1) (.int .i64 (numR (numR (numR (txtR s2).2).2).2).1) (numR (numR (numR (numR (numR (numR s3).2).2).2).2).2).2 (.slice Ai is.length ci) u ∧ (∃ A c, x 16 = .slice A (is.length + 1) c ∧ Ix wN u (.slice A (is.length + 1) c) (is ++ [(insR s3).1])) ∧ wt.heap.size ≤ u.heap.size | _ => ∃ A c, RcF W wN rb (.string (txtR s2).1) (.int .i64 (numR (txtR s2).2).1) (.int .i64 (numR (numR (txtR s2).2).2).1) (.int .i64 (numR (numR (numR (txtR s2).2).2).2).1) (numR (numR (numR (numR (numR (numR s3).2).2).2).2).2).2 (.slice A (is.length + 1) c) u ∧ Ix wN u (.slice A (is.length + 1) c) (is ++ [(insR s3).1]))
                  [fun (y : Value) (u : World) => y = (.pointer (some ⟨nf, 4, none⟩) : Value),
                   fun (y : Value) (u : World) => y = (.slice Ai is.length ci : Value),
                   fun (y : Value) (u : World) => y = (.pointer (some ⟨rb, 0, none⟩) : Value),
                   fun (y : Value) (u : World) => y = (.int .i64 (numR s3).1 : Value),
                   fun (y : Value) (u : World) => y = (.pointer (some ⟨rb, 0, none⟩) : Value),
                   fun (y : Value) (u : World) => y = (.int .i64 (numR (numR s3).2).1 : Value),
                   fun (y : Value) (u : World) => y = (.pointer (some ⟨rb, 0, none⟩) : Value),
                   fun (y : Value) (u : World) => y = (.int .i64 (numR (numR (numR s3).2).2).1 : Value),
                   fun (y : Value) (u : World) => y = (.pointer (some ⟨rb, 0, none⟩) : Value),
                   fun (y : Value) (u : World) => y = (.int .i64 (numR (numR (numR (numR s3).2).2).2).1 : Value),
                   fun (y : Value) (u : World) => y = (.pointer (some ⟨rb, 0, none⟩) : Value),
                   fun (y : Value) (u : World) => y = (.int .i64 (numR (numR (numR (numR (numR s3).2).2).2).2).1 : Value),
                   fun (y : Value) (u : World) => y = (.pointer (some ⟨rb, 0, none⟩) : Value),
                   fun (y : Value) (u : World) => y = (.int .i64 (numR (numR (numR (numR (numR (numR s3).2).2).2).2).2).1 : Value),
                   fun (y : Value) (u : World) => y = (.agg #[.int .i64 (numR s3).1, .int .i64 (numR (numR s3).2).1, .int .i64 (numR (numR (numR s3).2).2).1, .int .i64 (numR (numR (numR (numR s3).2).2).2).1, .int .i64 (numR (numR (numR (numR (numR s3).2).2).2).2).1, .int .i64 (numR (numR (numR (numR (numR (numR s3).2).2).2).2).2).1] : Value),
                   fun (y : Value) (u : World) => LitAt wt.heap.size 64 #[.int .i64 (numR s3).1, .int .i64 (numR (numR s3).2).1, .int .i64 (numR (numR (numR s3).2).2).1, .int .i64 (numR (numR (numR (numR s3).2).2).2).1, .int .i64 (numR (numR (numR (numR (numR s3).2).2).2).2).1, .int .i64 (numR (numR (numR (numR (numR (numR s3).2).2).2).2).2).1] y u,
                   fun (y : Value) (u : World) => True,
                   fun (y : Value) (u : World) => y = (.pointer (some ⟨nf, 4, none⟩) : Value),
                   fun (y : Value) (u : World) => True]
                  (by kernel_rfl) (by kernel_rfl) (by kernel_rfl) (by kernel_rfl) (by kernel_rfl) (by kernel_rfl) (fun _ _ hk => KpF.of_kp hk) (⟨HF3.out.keep (Kp.refl _).drew, HI3.out.keep (Kp.refl _).drew, Nat.le_refl _⟩) ?hKc ?hXc ⟨fun _ _ _ _ h => h, fun _ _ _ _ h => h, fun _ _ _ _ h => h, fun _ _ _ _ h => h, fun _ _ _ _ h => h, fun _ _ _ _ h => h, fun _ _ _ _ h => h, fun _ _ _ _ h => h, fun _ _ _ _ h => h, fun _ _ _ _ h => h, fun _ _ _ _ h => h, fun _ _ _ _ h => h, fun _ _ _ _ h => h, fun _ _ _ _ h => h, fun _ _ _ _ h => h, fun _ _ _ hk h => h.keep hk, fun _ _ _ _ _ => trivial, fun _ _ _ _ h => h, fun _ _ _ _ _ => trivial, trivial⟩ ⟨?sc0, ?sc1, ?sc2, ?sc3, ?sc4, ?sc5, ?sc6, ?sc7, ?sc8, ?sc9, ?sc10, ?sc11, ?sc12, ?sc13, ?sc14, ?sc15, ?sc16, ?sc17, ?sc18, trivial⟩ ?hEc
                case hKc =>
                  intro p x w w' hk h
                  rcases p with _ | _ | _ | _ | _ | _ | _ | _ | p
                  · exact ⟨h.1.keep hk, h.2.1.keep hk, Nat.le_trans h.2.2 hk.le⟩
                  · exact ⟨h.1.keep hk, h.2.1.keep hk, Nat.le_trans h.2.2 hk.le⟩
                  · exact ⟨h.1.keep hk, h.2.1.keep hk, Nat.le_trans h.2.2 hk.le⟩
                  · exact ⟨h.1.keep hk, h.2.1.keep hk, Nat.le_trans h.2.2 hk.le⟩
                  · exact ⟨h.1.keep hk, h.2.1.keep hk, Nat.le_trans h.2.2 hk.le⟩
                  · exact ⟨h.1.keep hk, h.2.1.keep hk, Nat.le_trans h.2.2 hk.le⟩
                  · exact ⟨h.1.keep hk, h.2.1.keep hk, Nat.le_trans h.2.2 hk.le⟩
                  · exact ⟨h.1.keep hk, (by obtain ⟨A, c, h1, h2⟩ := h.2.1; exact ⟨A, c, h1, h2.keep hk⟩), Nat.le_trans h.2.2 hk.le⟩
                  · exact (by obtain ⟨A, c, h1, h2⟩ := h; exact ⟨A, c, h1.keep hk, h2.keep hk⟩)
                case hXc =>
                  intro p x i v w hi h
                  have e0 : upd x i v 3 = x 3 := if_neg (fun hh => hi (by rw [← hh]; decide))
                  have e1 : upd x i v 5 = x 5 := if_neg (fun hh => hi (by rw [← hh]; decide))
                  have e2 : upd x i v 7 = x 7 := if_neg (fun hh => hi (by rw [← hh]; decide))
                  have e3 : upd x i v 9 = x 9 := if_neg (fun hh => hi (by rw [← hh]; decide))
                  have e4 : upd x i v 11 = x 11 := if_neg (fun hh => hi (by rw [← hh]; decide))
                  have e5 : upd x i v 13 = x 13 := if_neg (fun hh => hi (by rw [← hh]; decide))
                  have e6 : upd x i v 16 = x 16 := if_neg (fun hh => hi (by rw [← hh]; decide))
                  have e7 : upd x i v 18 = x 18 := if_neg (fun hh => hi (by rw [← hh]; decide))
                  rcases p with _ | _ | _ | _ | _ | _ | _ | _ | p
                  · first | exact h | (simp only [e0, e1, e2, e3, e4, e5, e6, e7]; exact h)
                  · first | exact h | (simp only [e0, e1, e2, e3, e4, e5, e6, e7]; exact h)
                  · first | exact h | (simp only [e0, e1, e2, e3, e4, e5, e6, e7]; exact h)
                  · first | exact h | (simp only [e0, e1, e2, e3, e4, e5, e6, e7]; exact h)
                  · first | exact h | (simp only [e0, e1, e2, e3, e4, e5, e6, e7]; exact h)
                  · first | exact h | (simp only [e0, e1, e2, e3, e4, e5, e6, e7]; exact h)
                  · first | exact h | (simp only [e0, e1, e2, e3, e4, e5, e6, e7]; exact h)
                  · first | exact h | (simp only [e0, e1, e2, e3, e4, e5, e6, e7]; exact h)
                  · first | exact h | (simp only [e0, e1, e2, e3, e4, e5, e6, e7]; exact h)
                case sc0 =>
                  refine OpStepQ.off 0 6 (by kernel_rfl) (by kernel_rfl) ?_
                  intro x u p hp hg hd K hK
                  clear hd
                  refine ⟨?_⟩
                  simp only [putsFrom, Act.put, List.setIfInBounds_toArray, List.set_cons_zero, List.set_cons_succ, Nat.reduceAdd] at hK ⊢
                  go_simp
                  exact hK.out _ _ (Kp.refl _) rfl
                case sc1 =>
                  refine OpStepQ.off 0 6 (by kernel_rfl) (by kernel_rfl) ?_
                  intro x u p hp hg hd K hK
                  have d0 : (x 0) = .pointer (some ⟨nf, 4, none⟩) := And.left hd
                  clear hd
                  have hb : u.heap[wN.heap.size]? = some (.cells #[.string (txtR s2).1, .int .i64 (numR (txtR s2).2).1, .int .i64 (numR (numR (txtR s2).2).2).1, .int .i64 (numR (numR (numR (txtR s2).2).2).2).1, .slice Ai is.length ci] 45 (0, 0)) := by
                    rcases p with _ | _ | _ | _ | _ | _ | _ | _ | p
                    · exact hg.1.box
                    · exact hg.1.box
                    · exact hg.1.box
                    · exact hg.1.box
                    · exact hg.1.box
                    · exact hg.1.box
                    · exact hg.1.box
                    · exact hg.1.box
                    · omega
                  rw [HNF.out] at hb
                  have q := blk_cell (o := 4) (v := Value.slice Ai is.length ci) hb rfl
                  clear hb hg
                  refine ⟨?_⟩
                  simp only [putsFrom, Act.put, List.setIfInBounds_toArray, List.set_cons_zero, List.set_cons_succ, Nat.reduceAdd, d0] at hK ⊢
                  go_simp
                  exact hK.out _ _ (Kp.refl _) rfl
                case sc2 =>
                  refine OpStepQ.off 0 0 (by kernel_rfl) (by kernel_rfl) ?_
                  intro x u p hp hg hd K hK
                  obtain rfl : p = 0 := by omega
                  change RcF W wN rb (.string (txtR s2).1) (.int .i64 (numR (txtR s2).2).1) (.int .i64 (numR (numR (txtR s2).2).2).1) (.int .i64 (numR (numR (numR (txtR s2).2).2).2).1) s3 (.slice Ai is.length ci) u ∧ Ix wN u (.slice Ai is.length ci) is ∧ wt.heap.size ≤ u.heap.size at hg
                  clear hd
                  refine ⟨?_⟩
                  simp only [putsFrom, Act.put, List.setIfInBounds_toArray, List.set_cons_zero, List.set_cons_succ, Nat.reduceAdd] at hK ⊢
                  go_simp
                  exact hK.out _ _ (Kp.refl _) rfl
                case sc3 =>
                  refine OpStepQ.on 0 (by kernel_rfl) (by kernel_rfl) ?_
                  intro x u hg hd K hK
                  change RcF W wN rb (.string (txtR s2).1) (.int .i64 (numR (txtR s2).2).1) (.int .i64 (numR (numR (txtR s2).2).2).1) (.int .i64 (numR (numR (numR (txtR s2).2).2).2).1) s3 (.slice Ai is.length ci) u ∧ Ix wN u (.slice Ai is.length ci) is ∧ wt.heap.size ≤ u.heap.size at hg
                  have d2 : (x 2) = .pointer (some ⟨rb, 0, none⟩) := And.left hd
                  clear hd
                  refine ⟨?_⟩
                  simp only [putsFrom, Act.put, List.setIfInBounds_toArray, List.set_cons_zero, List.set_cons_succ, Nat.reduceAdd, d2] at hK ⊢
                  go_simp
                  go_at_call 46
                  have hc := (rnum_any W u rb s3 hg.1.rdr hg.1.kp)
                  refine hc.mono ?_
                  clear hc
                  rintro e u' ⟨rfl, hr, hgr⟩
                  dsimp only
                  exact hK.out _ _ (KpF.of_grown hgr (fun g hg => by injection hg with hg; have := HRW.out; omega)) ⟨hg.1.read HK.out.a HNB.out (numR_le _) hr hgr, hg.2.1.read HNB.out hgr, Nat.le_trans hg.2.2 hgr.size⟩ rfl
                case sc4 =>
                  refine OpStepQ.off 0 1 (by kernel_rfl) (by kernel_rfl) ?_
                  intro x u p hp hg hd K hK
                  clear hd
                  refine ⟨?_⟩
                  simp only [putsFrom, Act.put, List.setIfInBounds_toArray, List.set_cons_zero, List.set_cons_succ, Nat.reduceAdd] at hK ⊢
                  go_simp
                  exact hK.out _ _ (Kp.refl _) rfl
                case sc5 =>
                  refine OpStepQ.on 1 (by kernel_rfl) (by kernel_rfl) ?_
                  intro x u hg hd K hK
                  change RcF W wN rb (.string (txtR s2).1) (.int .i64 (numR (txtR s2).2).1) (.int .i64 (numR (numR (txtR s2).2).2).1) (.int .i64 (numR (numR (numR (txtR s2).2).2).2).1) (numR s3).2 (.slice Ai is.length ci) u ∧ Ix wN u (.slice Ai is.length ci) is ∧ wt.heap.size ≤ u.heap.size at hg
                  have d3 : (x 3) = .int .i64 (numR s3).1 := And.left hd
                  have d4 : (x 4) = .pointer (some ⟨rb, 0, none⟩) := And.left (And.right hd)
                  clear hd
                  refine ⟨?_⟩
                  simp only [putsFrom, Act.put, List.setIfInBounds_toArray, List.set_cons_zero, List.set_cons_succ, Nat.reduceAdd, d3, d4] at hK ⊢
                  go_simp
                  go_at_call 46
                  have hc := (rnum_any W u rb (numR s3).2 hg.1.rdr hg.1.kp)
                  refine hc.mono ?_
                  clear hc
                  rintro e u' ⟨rfl, hr, hgr⟩
                  dsimp only
                  exact hK.out _ _ (KpF.of_grown hgr (fun g hg => by injection hg with hg; have := HRW.out; omega)) ⟨hg.1.read HK.out.a HNB.out (numR_le _) hr hgr, hg.2.1.read HNB.out hgr, Nat.le_trans hg.2.2 hgr.size⟩ rfl
                case sc6 =>
                  refine OpStepQ.off 0 2 (by kernel_rfl) (by kernel_rfl) ?_
                  intro x u p hp hg hd K hK
                  clear hd
                  refine ⟨?_⟩
                  simp only [putsFrom, Act.put, List.setIfInBounds_toArray, List.set_cons_zero, List.set_cons_succ, Nat.reduceAdd] at hK ⊢
                  go_simp
                  exact hK.out _ _ (Kp.refl _) rfl
                case sc7 =>
                  refine OpStepQ.on 2 (by kernel_rfl) (by kernel_rfl) ?_
                  intro x u hg hd K hK
                  change RcF W wN rb (.string (txtR s2).1) (.int .i64 (numR (txtR s2).2).1) (.int .i64 (numR (numR (txtR s2).2).2).1) (.int .i64 (numR (numR (numR (txtR s2).2).2).2).1) (numR (numR s3).2).2 (.slice Ai is.length ci) u ∧ Ix wN u (.slice Ai is.length ci) is ∧ wt.heap.size ≤ u.heap.size at hg
                  have d5 : (x 5) = .int .i64 (numR (numR s3).2).1 := And.left hd
                  have d6 : (x 6) = .pointer (some ⟨rb, 0, none⟩) := And.left (And.right hd)
                  clear hd
                  refine ⟨?_⟩
                  simp only [putsFrom, Act.put, List.setIfInBounds_toArray, List.set_cons_zero, List.set_cons_succ, Nat.reduceAdd, d5, d6] at hK ⊢
                  go_simp
                  go_at_call 46
                  have hc := (rnum_any W u rb (numR (numR s3).2).2 hg.1.rdr hg.1.kp)
                  refine hc.mono ?_
                  clear hc
                  rintro e u' ⟨rfl, hr, hgr⟩
                  dsimp only
                  exact hK.out _ _ (KpF.of_grown hgr (fun g hg => by injection hg with hg; have := HRW.out; omega)) ⟨hg.1.read HK.out.a HNB.out (numR_le _) hr hgr, hg.2.1.read HNB.out hgr, Nat.le_trans hg.2.2 hgr.size⟩ rfl
                case sc8 =>
                  refine OpStepQ.off 0 3 (by kernel_rfl) (by kernel_rfl) ?_
                  intro x u p hp hg hd K hK
                  clear hd
                  refine ⟨?_⟩
                  simp only [putsFrom, Act.put, List.setIfInBounds_toArray, List.set_cons_zero, List.set_cons_succ, Nat.reduceAdd] at hK ⊢
                  go_simp
                  exact hK.out _ _ (Kp.refl _) rfl
                case sc9 =>
                  refine OpStepQ.on 3 (by kernel_rfl) (by kernel_rfl) ?_
                  intro x u hg hd K hK
                  change RcF W wN rb (.string (txtR s2).1) (.int .i64 (numR (txtR s2).2).1) (.int .i64 (numR (numR (txtR s2).2).2).1) (.int .i64 (numR (numR (numR (txtR s2).2).2).2).1) (numR (numR (numR s3).2).2).2 (.slice Ai is.length ci) u ∧ Ix wN u (.slice Ai is.length ci) is ∧ wt.heap.size ≤ u.heap.size at hg
                  have d7 : (x 7) = .int .i64 (numR (numR (numR s3).2).2).1 := And.left hd
                  have d8 : (x 8) = .pointer (some ⟨rb, 0, none⟩) := And.left (And.right hd)
                  clear hd
                  refine ⟨?_⟩
                  simp only [putsFrom, Act.put, List.setIfInBounds_toArray, List.set_cons_zero, List.set_cons_succ, Nat.reduceAdd, d7, d8] at hK ⊢
                  go_simp
                  go_at_call 46
                  have hc := (rnum_any W u rb (numR (numR (numR s3).2).2).2 hg.1.rdr hg.1.kp)
                  refine hc.mono ?_
                  clear hc
                  rintro e u' ⟨rfl, hr, hgr⟩
                  dsimp only
                  exact hK.out _ _ (KpF.of_grown hgr (fun g hg => by injection hg with hg; have := HRW.out; omega)) ⟨hg.1.read HK.out.a HNB.out (numR_le _) hr hgr, hg.2.1.read HNB.out hgr, Nat.le_trans hg.2.2 hgr.size⟩ rfl
                case sc10 =>
                  refine OpStepQ.off 0 4 (by kernel_rfl) (by kernel_rfl) ?_
                  intro x u p hp hg hd K hK
                  clear hd
                  refine ⟨?_⟩
                  simp only [putsFrom, Act.put, List.setIfInBounds_toArray, List.set_cons_zero, List.set_cons_succ, Nat.reduceAdd] at hK ⊢
                  go_simp
                  exact hK.out _ _ (Kp.refl _) rfl
                case sc11 =>
                  refine OpStepQ.on 4 (by kernel_rfl) (by kernel_rfl) ?_
                  intro x u hg hd K hK
                  change RcF W wN rb (.string (txtR s2).1) (.int .i64 (numR (txtR s2).2).1) (.int .i64 (numR (numR (txtR s2).2).2).1) (.int .i64 (numR (numR (numR (txtR s2).2).2).2).1) (numR (numR (numR (numR s3).2).2).2).2 (.slice Ai is.length ci) u ∧ Ix wN u (.slice Ai is.length ci) is ∧ wt.heap.size ≤ u.heap.size at hg
                  have d9 : (x 9) = .int .i64 (numR (numR (numR (numR s3).2).2).2).1 := And.left hd
                  have d10 : (x 10) = .pointer (some ⟨rb, 0, none⟩) := And.left (And.right hd)
                  clear hd
                  refine ⟨?_⟩
                  simp only [putsFrom, Act.put, List.setIfInBounds_toArray, List.set_cons_zero, List.set_cons_succ, Nat.reduceAdd, d9, d10] at hK ⊢
                  go_simp
                  go_at_call 46
                  have hc := (rnum_any W u rb (numR (numR (numR (numR s3).2).2).2).2 hg.1.rdr hg.1.kp)
                  refine hc.mono ?_
                  clear hc
                  rintro e u' ⟨rfl, hr, hgr⟩
                  dsimp only
                  exact hK.out _ _ (KpF.of_grown hgr (fun g hg => by injection hg with hg; have := HRW.out; omega)) ⟨hg.1.read HK.out.a HNB.out (numR_le _) hr hgr, hg.2.1.read HNB.out hgr, Nat.le_trans hg.2.2 hgr.size⟩ rfl
                case sc12 =>
                  refine OpStepQ.off 0 5 (by kernel_rfl) (by kernel_rfl) ?_
                  intro x u p hp hg hd K hK
                  clear hd
                  refine ⟨?_⟩
                  simp only [putsFrom, Act.put, List.setIfInBounds_toArray, List.set_cons_zero, List.set_cons_succ, Nat.reduceAdd] at hK ⊢
                  go_simp
                  exact hK.out _ _ (Kp.refl _) rfl
                case sc13 =>
                  refine OpStepQ.on 5 (by kernel_rfl) (by kernel_rfl) ?_
                  intro x u hg hd K hK
                  change RcF W wN rb (.string (txtR s2).1) (.int .i64 (numR (txtR s2).2).1) (.int .i64 (numR (numR (txtR s2).2).2).1) (.int .i64 (numR (numR (numR (txtR s2).2).2).2).1) (numR (numR (numR (numR (numR s3).2).2).2).2).2 (.slice Ai is.length ci) u ∧ Ix wN u (.slice Ai is.length ci) is ∧ wt.heap.size ≤ u.heap.size at hg
                  have d11 : (x 11) = .int .i64 (numR (numR (numR (numR (numR s3).2).2).2).2).1 := And.left hd
                  have d12 : (x 12) = .pointer (some ⟨rb, 0, none⟩) := And.left (And.right hd)
                  clear hd
                  refine ⟨?_⟩
                  simp only [putsFrom, Act.put, List.setIfInBounds_toArray, List.set_cons_zero, List.set_cons_succ, Nat.reduceAdd, d11, d12] at hK ⊢
                  go_simp
                  go_at_call 46
                  have hc := (rnum_any W u rb (numR (numR (numR (numR (numR s3).2).2).2).2).2 hg.1.rdr hg.1.kp)
                  refine hc.mono ?_
                  clear hc
                  rintro e u' ⟨rfl, hr, hgr⟩
                  dsimp only
                  exact hK.out _ _ (KpF.of_grown hgr (fun g hg => by injection hg with hg; have := HRW.out; omega)) ⟨hg.1.read HK.out.a HNB.out (numR_le _) hr hgr, hg.2.1.read HNB.out hgr, Nat.le_trans hg.2.2 hgr.size⟩ rfl
                case sc14 =>
                  refine OpStepQ.off 6 6 (by kernel_rfl) (by kernel_rfl) ?_
                  intro x u p hp hg hd K hK
                  obtain rfl : p = 6 := by omega
                  change RcF W wN rb (.string (txtR s2).1) (.int .i64 (numR (txtR s2).2).1) (.int .i64 (numR (numR (txtR s2).2).2).1) (.int .i64 (numR (numR (numR (txtR s2).2).2).2).1) (numR (numR (numR (numR (numR (numR s3).2).2).2).2).2).2 (.slice Ai is.length ci) u ∧ Ix wN u (.slice Ai is.length ci) is ∧ wt.heap.size ≤ u.heap.size at hg
                  have d3 : (x 3) = .int .i64 (numR s3).1 := And.left hd
                  have d5 : (x 5) = .int .i64 (numR (numR s3).2).1 := And.left (And.right hd)
                  have d7 : (x 7) = .int .i64 (numR (numR (numR s3).2).2).1 := And.left (And.right (And.right hd))
                  have d9 : (x 9) = .int .i64 (numR (numR (numR (numR s3).2).2).2).1 := And.left (And.right (And.right (And.right hd)))
                  have d11 : (x 11) = .int .i64 (numR (numR (numR (numR (numR s3).2).2).2).2).1 := And.left (And.right (And.right (And.right (And.right hd))))
                  have d13 : (x 13) = .int .i64 (numR (numR (numR (numR (numR (numR s3).2).2).2).2).2).1 := And.left (And.right (And.right (And.right (And.right (And.right hd)))))
                  clear hd
                  refine ⟨?_⟩
                  simp only [putsFrom, Act.put, List.setIfInBounds_toArray, List.set_cons_zero, List.set_cons_succ, Nat.reduceAdd, d3, d5, d7, d9, d11, d13] at hK ⊢
                  go_simp
                  exact hK.out _ _ (Kp.refl _) rfl
                case sc15 =>
                  refine OpStepQ.off 6 6 (by kernel_rfl) (by kernel_rfl) ?_
                  intro x u p hp hg hd K hK
                  obtain rfl : p = 6 := by omega
                  change RcF W wN rb (.string (txtR s2).1) (.int .i64 (numR (txtR s2).2).1) (.int .i64 (numR (numR (txtR s2).2).2).1) (.int .i64 (numR (numR (numR (txtR s2).2).2).2).1) (numR (numR (numR (numR (numR (numR s3).2).2).2).2).2).2 (.slice Ai is.length ci) u ∧ Ix wN u (.slice Ai is.length ci) is ∧ wt.heap.size ≤ u.heap.size at hg
                  have d14 : (x 14) = .agg #[.int .i64 (numR s3).1, .int .i64 (numR (numR s3).2).1, .int .i64 (numR (numR (numR s3).2).2).1, .int .i64 (numR (numR (numR (numR s3).2).2).2).1, .int .i64 (numR (numR (numR (numR (numR s3).2).2).2).2).1, .int .i64 (numR (numR (numR (numR (numR (numR s3).2).2).2).2).2).1] := And.left hd
                  clear hd
                  refine ⟨?_⟩
                  simp only [putsFrom, Act.put, List.setIfInBounds_toArray, List.set_cons_zero, List.set_cons_succ, Nat.reduceAdd, d14] at hK ⊢
                  go_simp
                  exact hK.out _ _ ((Kp.refl _).alloc _) ⟨_, rfl, hg.2.2, blk_new _ _⟩
                case sc16 =>
                  refine OpStepQ.on 6 (by kernel_rfl) (by kernel_rfl) ?_
                  intro x u hg hd K hK
                  change RcF W wN rb (.string (txtR s2).1) (.int .i64 (numR (txtR s2).2).1) (.int .i64 (numR (numR (txtR s2).2).2).1) (.int .i64 (numR (numR (numR (txtR s2).2).2).2).1) (numR (numR (numR (numR (numR (numR s3).2).2).2).2).2).2 (.slice Ai is.length ci) u ∧ Ix wN u (.slice Ai is.length ci) is ∧ wt.heap.size ≤ u.heap.size at hg
                  have d1 : (x 1) = .slice Ai is.length ci := And.left hd
                  have d15 : LitAt wt.heap.size 64 #[.int .i64 (numR s3).1, .int .i64 (numR (numR s3).2).1, .int .i64 (numR (numR (numR s3).2).2).1, .int .i64 (numR (numR (numR (numR s3).2).2).2).1, .int .i64 (numR (numR (numR (numR (numR s3).2).2).2).2).1, .int .i64 (numR (numR (numR (numR (numR (numR s3).2).2).2).2).2).1] (x 15) u := And.left (And.right hd)
                  clear hd
                  obtain ⟨b, e6, hb6, hlit⟩ := d15
                  obtain ⟨xs, l1, l2⟩ := hg.2.1
                  refine ⟨?_⟩
                  simp only [putsFrom, Act.put, List.setIfInBounds_toArray, List.set_cons_zero, List.set_cons_succ, Nat.reduceAdd, d1, e6] at hK ⊢
                  rw [if_pos (by simp [Region.wanted])]
                  refine wp_appP elIns (.tmp 64) (.tmp 78) (by rfl) l1 (by rfl) [.int .i64 (numR s3).1, .int .i64 (numR (numR s3).2).1, .int .i64 (numR (numR (numR s3).2).2).1, .int .i64 (numR (numR (numR (numR s3).2).2).2).1, .int .i64 (numR (numR (numR (numR (numR s3).2).2).2).2).1, .int .i64 (numR (numR (numR (numR (numR (numR s3).2).2).2).2).2).1] _ 1 1 (by rfl) rfl (fun _ => ⟨_, rfl, lit_src hlit⟩) (by intro u hu; simp at hu; rcases hu with rfl | rfl | rfl | rfl | rfl | rfl <;> rfl) B1.out B2.out (Nat.le_trans HRW.out.2.2 hg.2.2) ?_
                  intro v' w' G1 G2 G3 G4
                  obtain ⟨A', c', rfl⟩ := own_form G1
                  exact hK.out _ w' (KpF.of_grown G2 BF.out) ⟨hg.1.app HK.out.a HNB.out (Touch.of_grown l1 G2) G4, ⟨A', c', rfl, OwnL.snoc (n := is.length + 1) rfl l2 (fun _ _ h => CeIns.any h) ⟨rfl, insR_okI s3⟩ rfl G1⟩, Nat.le_trans hg.2.2 G2.size⟩ trivial
                case sc17 =>
                  refine OpStepQ.off 0 7 (by kernel_rfl) (by kernel_rfl) ?_
                  intro x u p hp hg hd K hK
                  clear hd
                  refine ⟨?_⟩
                  simp only [putsFrom, Act.put, List.setIfInBounds_toArray, List.set_cons_zero, List.set_cons_succ, Nat.reduceAdd] at hK ⊢
                  go_simp
                  exact hK.out _ _ (Kp.refl _) rfl
                case sc18 =>
                  refine OpStepQ.on 7 (by kernel_rfl) (by kernel_rfl) ?_
                  intro x u hg hd K hK
                  change RcF W wN rb (.string (txtR s2).1) (.int .i64 (numR (txtR s2).2).1) (.int .i64 (numR (numR (txtR s2).2).2).1) (.int .i64 (numR (numR (numR (txtR s2).2).2).2).1) (numR (numR (numR (numR (numR (numR s3).2).2).2).2).2).2 (.slice Ai is.length ci) u ∧ (∃ A c, x 16 = .slice A (is.length + 1) c ∧ Ix wN u (.slice A (is.length + 1) c) (is ++ [(insR s3).1])) ∧ wt.heap.size ≤ u.heap.size at hg
                  have d17 : (x 17) = .pointer (some ⟨nf, 4, none⟩) := And.left (And.right hd)
                  clear hd
                  obtain ⟨hg1, ⟨A7, c7, e7, hg2⟩, hg3⟩ := hg
                  have hb := hg1.box
                  rw [HNF.out] at hb
                  have q := blk_cell (o := 4) (v := Value.slice Ai is.length ci) hb rfl
                  have qf := blk_free (o := 4) hb
                  have HG1 := hid (hg1.set4 HK.out.a HNB.out (.slice A7 (is.length + 1) c7))
                  have HG2 := hid (hg2.set4 hg1.box (.slice A7 (is.length + 1) c7))
                  rw [HNF.out] at HG1 HG2
                  clear hb hg1 hg2 hg3
                  refine ⟨?_⟩
                  simp only [putsFrom, Act.put, List.setIfInBounds_toArray, List.set_cons_zero, List.set_cons_succ, Nat.reduceAdd, d17, e7] at hK ⊢
                  go_simp
                  exact hK.out undef _ (KpF.setCell HRW.out.2.1 _) ⟨A7, c7, HG1.out, HG2.out⟩ trivial
                intro x u hg he
                have d0 : (x 0) = .pointer (some ⟨nf, 4, none⟩) := And.left he
                have d1 : (x 1) = .slice Ai is.length ci := And.left (And.right he)
                have d2 : (x 2) = .pointer (some ⟨rb, 0, none⟩) := And.left (And.right (And.right he))
                have d3 : (x 3) = .int .i64 (numR s3).1 := And.left (And.right (And.right (And.right he)))
                have d4 : (x 4) = .pointer (some ⟨rb, 0, none⟩) := And.left (And.right (And.right (And.right (And.right he))))
                have d5 : (x 5) = .int .i64 (numR (numR s3).2).1 := And.left (And.right (And.right (And.right (And.right (And.right he)))))
                have d6 : (x 6) = .pointer (some ⟨rb, 0, none⟩) := And.left (And.right (And.right (And.right (And.right (And.right (And.right he))))))
                have d7 : (x 7) = .int .i64 (numR (numR (numR s3).2).2).1 := And.left (And.right (And.right (And.right (And.right (And.right (And.right (And.right he)))))))
                have d8 : (x 8) = .pointer (some ⟨rb, 0, none⟩) := And.left (And.right (And.right (And.right (And.right (And.right (And.right (And.right (And.right he))))))))
                have d9 : (x 9) = .int .i64 (numR (numR (numR (numR s3).2).2).2).1 := And.left (And.right (And.right (And.right (And.right (And.right (And.right (And.right (And.right (And.right he)))))))))
                have d10 : (x 10) = .pointer (some ⟨rb, 0, none⟩) := And.left (And.right (And.right (And.right (And.right (And.right (And.right (And.right (And.right (And.right (And.right he))))))))))
                have d11 : (x 11) = .int .i64 (numR (numR (numR (numR (numR s3).2).2).2).2).1 := And.left (And.right (And.right (And.right (And.right (And.right (And.right (And.right (And.right (And.right (And.right (And.right he)))))))))))
                have d12 : (x 12) = .pointer (some ⟨rb, 0, none⟩) := And.left (And.right (And.right (And.right (And.right (And.right (And.right (And.right (And.right (And.right (And.right (And.right (And.right he))))))))))))
                have d13 : (x 13) = .int .i64 (numR (numR (numR (numR (numR (numR s3).2).2).2).2).2).1 := And.left (And.right (And.right (And.right (And.right (And.right (And.right (And.right (And.right (And.right (And.right (And.right (And.right (And.right he)))))))))))))
                have d14 : (x 14) = .agg #[.int .i64 (numR s3).1, .int .i64 (numR (numR s3).2).1, .int .i64 (numR (numR (numR s3).2).2).1, .int .i64 (numR (numR (numR (numR s3).2).2).2).1, .int .i64 (numR (numR (numR (numR (numR s3).2).2).2).2).1, .int .i64 (numR (numR (numR (numR (numR (numR s3).2).2).2).2).2).1] := And.left (And.right (And.right (And.right (And.right (And.right (And.right (And.right (And.right (And.right (And.right (And.right (And.right (And.right (And.right he))))))))))))))
                have d15 : LitAt wt.heap.size 64 #[.int .i64 (numR s3).1, .int .i64 (numR (numR s3).2).1, .int .i64 (numR (numR (numR s3).2).2).1, .int .i64 (numR (numR (numR (numR s3).2).2).2).1, .int .i64 (numR (numR (numR (numR (numR s3).2).2).2).2).1, .int .i64 (numR (numR (numR (numR (numR (numR s3).2).2).2).2).2).1] (x 15) u := And.left (And.right (And.right (And.right (And.right (And.right (And.right (And.right (And.right (And.right (And.right (And.right (And.right (And.right (And.right (And.right he)))))))))))))))
                have d17 : (x 17) = .pointer (some ⟨nf, 4, none⟩) := And.left (And.right (And.right (And.right (And.right (And.right (And.right (And.right (And.right (And.right (And.right (And.right (And.right (And.right (And.right (And.right (And.right (And.right he)))))))))))))))))
                clear he
                change ∃ A c, RcF W wN rb (.string (txtR s2).1) (.int .i64 (numR (txtR s2).2).1) (.int .i64 (numR (numR (txtR s2).2).2).1) (.int .i64 (numR (numR (numR (txtR s2).2).2).2).1) (numR (numR (numR (numR (numR (numR s3).2).2).2).2).2).2 (.slice A (is.length + 1) c) u ∧ Ix wN u (.slice A (is.length + 1) c) (is ++ [(insR s3).1]) at hg
                refine ⟨?_⟩
                simp only [putsFrom, Act.put, List.setIfInBounds_toArray, List.set_cons_zero, List.set_cons_succ, Nat.reduceAdd, d0, d1, d2, d3, d4, d5, d6, d7, d8, d9, d10, d11, d12, d13, d14, d17]
                clear d0 d1 d2 d3 d4 d5 d6 d7 d8 d9 d10 d11 d12 d13 d14 d17
                obtain ⟨A7, c7, hX7, hT7⟩ := hg
                have HX7 := hid hX7
                have HT7 := hid hT7
                clear hX7 hT7
                go_wp2
                exact ⟨⟨r3, (insR s3).2, is ++ [(insR s3).1], A7, c7, rfl, HNX3.out, by rw [List.length_append]; exact HX7.out, by rw [List.length_append]; exact HT7.out⟩, by rw [← HRR3.out]; simp only [intOf, Int.toNat_natCast]; omega⟩
              · have hor : r3 = 0 ∨ (0 < r3 ∧ s3.bad = true) := by
                  rcases Nat.eq_zero_or_pos r3 with h | h
                  · exact .inl h
                  · cases hq : s3.bad with
                    | false => exact absurd ⟨h, hq⟩ hgo
                    | true => exact .inr ⟨h, rfl⟩
                have HFL3 := hid (hrep3.1.fin (by rcases hor with h | h; exact .inl h; exact .inr h.2))
                have HFX := hid (HXN.out.1.read HK.out (s' := s3) HLE3.out HF3.out.rdr HF3.out.grown)
                have HTX := hid (HXN.out.2.read HK.out HF3.out.grown)
                have HOKF := hid (show okFnB ⟨(txtR s2).1, (numR (txtR s2).2).1, (numR (numR (txtR s2).2).2).1, (numR (numR (numR (txtR s2).2).2).2).1, is⟩ from ⟨txt_le (by have := HXF.out.le; omega), numR_okI _, numR_okI _, numR_okI _, by have := hrep3.1.2; have := HLL.out; show is.length * 48 ≤ _; omega⟩)
                have hfn : (fnR s2).1 = ⟨(txtR s2).1, (numR (txtR s2).2).1, (numR (numR (txtR s2).2).2).1, (numR (numR (numR (txtR s2).2).2).2).1, is⟩ ∧ (fnR s2).2 = s3 := by
                  unfold fnR
                  simp only
                  rw [HLN.out, Int.toNat_natCast, HFL3.out]
                  exact ⟨rfl, rfl⟩
                have HFN := hid hfn
                clear hfn hrep3 hx3 hix3 hrb3 hgo
                rcases hor with rfl | ⟨hr0, hbad⟩
                · go_upto_region 14 with fail
                  clear c1 clt
                  obtain ⟨xsf, l1, l2⟩ := HFX.out.fns
                  have HL1 := hid l1
                  have HL2 := hid l2
                  have hbx := HF3.out.box
                  rw [HNF.out] at hbx
                  have g0 := blk_cell (o := 0) (v := Value.string (txtR s2).1) hbx rfl
                  have g1 := blk_cell (o := 1) (v := Value.int .i64 (numR (txtR s2).2).1) hbx rfl
                  have g2 := blk_cell (o := 2) (v := Value.int .i64 (numR (numR (txtR s2).2).2).1) hbx rfl
                  have g3 := blk_cell (o := 3) (v := Value.int .i64 (numR (numR (numR (txtR s2).2).2).2).1) hbx rfl
                  have g4 := blk_cell (o := 4) (v := Value.slice Ai is.length ci) hbx rfl
                  have gl := blk_lt hbx
                  have d0 := blk_cell (o := 0) (v := Value.slice Af fs.length cf) HFX.out.box rfl
                  have dl := blk_lt HFX.out.box
                  have BW := hid (show w.heap.size ≤ wt.heap.size from HFX.out.grown.size)
                  clear l1 l2 hbx
                  go_wp2_with (at_builtin; refine app_lit elFn ?p0 (.tmp 82) (.tmp 84) ?p1 HL1.out ?p2 #[.string (txtR s2).1, .int .i64 (numR (txtR s2).2).1, .int .i64 (numR (numR (txtR s2).2).2).1, .int .i64 (numR (numR (numR (txtR s2).2).2).2).1, .slice Ai is.length ci] 45 1 1 ?p3 ?p4 ?p5 HB63.out HB64.out BW.out ?p8)
                  case p0 => rfl
                  case p1 => rfl
                  case p2 => rfl
                  case p3 => rfl
                  case p4 => rfl
                  case p5 => repeat' (first | exact rfl | refine ⟨?_, ?_⟩)
                  case p8 =>
                    intro v' w' G1 G2 _ _ G4
                    obtain ⟨A', c', rfl⟩ := own_form G1
                    have ht := Touch.of_grown HL1.out G2
                    have hbx2 : w'.heap[cb]? = some (.cells #[.slice Af fs.length cf, .slice At ts.length ct] 25 (0, 0)) := ht.2 _ _ HFX.out.box (fun cs fr e => by injection e with _ e _; exact absurd e (by decide))
                    have hins : OwnL CeIns 6 64 w' w.heap.size (.slice Ai is.length ci) is := OwnL.base_ (by have := HXN.out.1.grown.size; omega) (ownL_touch (w := wt) (base := wN.heap.size + 1) (e := 45) (by decide) (fun _ _ x => CeIns.any x) HI3.out ht)
                    have hrow := OwnL.snoc (a := ⟨(txtR s2).1, (numR (txtR s2).2).1, (numR (numR (txtR s2).2).2).1, (numR (numR (numR (txtR s2).2).2).2).1, is⟩) (n := fs.length + 1) rfl HL2.out (fun cs a h => h.touch (by decide) ht) ⟨.slice Ai is.length ci, rfl, hins, HOKF.out⟩ rfl G1
                    have HXE := hid (HFX.out.appF HK.out ht G4 hrow)
                    have HTE := hid (show Tx w (w'.setCell ⟨cb, 0, none⟩ (.slice A' (fs.length + 1) c')) (.slice At ts.length ct) ts from Tx.set1 (ownL_touch (by decide) (fun _ _ x => CeStr.any x) HTX.out ht) hbx2 0 _)
                    have e0 := blk_cell (o := 0) (v := Value.slice Af fs.length cf) hbx2 rfl
                    have e1 := blk_free (o := 0) hbx2
                    clear G1 G2 G4 ht hbx2 hrow hins d0 dl g0 g1 g2 g3 g4 gl
                    go_wp2
                    have hn := HNX.out
                    rw [HFN.out.1, HFN.out.2] at hn
                    exact ⟨⟨r, s3, _, A', c', rfl, hn, by rw [List.length_append]; exact HXE.out, HTE.out⟩, by rw [← HRR.out]; simp only [intOf, Int.toNat_natCast]; omega⟩
                · rw [hbad] at c1
                  have i1 : (0 : Int) < (r3 : Int) := by omega
                  clear hr0 hbad
                  go_upto_region 14 with fail
                  clear c1 clt i1
                  obtain ⟨xsf, l1, l2⟩ := HFX.out.fns
                  have HL1 := hid l1
                  have HL2 := hid l2
                  have hbx := HF3.out.box
                  rw [HNF.out] at hbx
                  have g0 := blk_cell (o := 0) (v := Value.string (txtR s2).1) hbx rfl
                  have g1 := blk_cell (o := 1) (v := Value.int .i64 (numR (txtR s2).2).1) hbx rfl
                  have g2 := blk_cell (o := 2) (v := Value.int .i64 (numR (numR (txtR s2).2).2).1) hbx rfl
                  have g3 := blk_cell (o := 3) (v := Value.int .i64 (numR (numR (numR (txtR s2).2).2).2).1) hbx rfl
                  have g4 := blk_cell (o := 4) (v := Value.slice Ai is.length ci) hbx rfl
                  have gl := blk_lt hbx
                  have d0 := blk_cell (o := 0) (v := Value.slice Af fs.length cf) HFX.out.box rfl
                  have dl := blk_lt HFX.out.box
                  have BW := hid (show w.heap.size ≤ wt.heap.size from HFX.out.grown.size)
                  clear l1 l2 hbx
                  go_wp2_with (at_builtin; refine app_lit elFn ?p0 (.tmp 82) (.tmp 84) ?p1 HL1.out ?p2 #[.string (txtR s2).1, .int .i64 (numR (txtR s2).2).1, .int .i64 (numR (numR (txtR s2).2).2).1, .int .i64 (numR (numR (numR (txtR s2).2).2).2).1, .slice Ai is.length ci] 45 1 1 ?p3 ?p4 ?p5 HB63.out HB64.out BW.out ?p8)
                  case p0 => rfl
                  case p1 => rfl
                  case p2 => rfl
                  case p3 => rfl
                  case p4 => rfl
                  case p5 => repeat' (first | exact rfl | refine ⟨?_, ?_⟩)
                  case p8 =>
                    intro v' w' G1 G2 _ _ G4
                    obtain ⟨A', c', rfl⟩ := own_form G1
                    have ht := Touch.of_grown HL1.out G2
                    have hbx2 : w'.heap[cb]? = some (.cells #[.slice Af fs.length cf, .slice At ts.length ct] 25 (0, 0)) := ht.2 _ _ HFX.out.box (fun cs fr e => by injection e with _ e _; exact absurd e (by decide))
                    have hins : OwnL CeIns 6 64 w' w.heap.size (.slice Ai is.length ci) is := OwnL.base_ (by have := HXN.out.1.grown.size; omega) (ownL_touch (w := wt) (base := wN.heap.size + 1) (e := 45) (by decide) (fun _ _ x => CeIns.any x) HI3.out ht)
                    have hrow := OwnL.snoc (a := ⟨(txtR s2).1, (numR (txtR s2).2).1, (numR (numR (txtR s2).2).2).1, (numR (numR (numR (txtR s2).2).2).2).1, is⟩) (n := fs.length + 1) rfl HL2.out (fun cs a h => h.touch (by decide) ht) ⟨.slice Ai is.length ci, rfl, hins, HOKF.out⟩ rfl G1
                    have HXE := hid (HFX.out.appF HK.out ht G4 hrow)
                    have HTE := hid (show Tx w (w'.setCell ⟨cb, 0, none⟩ (.slice A' (fs.length + 1) c')) (.slice At ts.length ct) ts from Tx.set1 (ownL_touch (by decide) (fun _ _ x => CeStr.any x) HTX.out ht) hbx2 0 _)
                    have e0 := blk_cell (o := 0) (v := Value.slice Af fs.length cf) hbx2 rfl
                    have e1 := blk_free (o := 0) hbx2
                    clear G1 G2 G4 ht hbx2 hrow hins d0 dl g0 g1 g2 g3 g4 gl
                    go_wp2
                    have hn := HNX.out
                    rw [HFN.out.1, HFN.out.2] at hn
                    exact ⟨⟨r, s3, _, A', c', rfl, hn, by rw [List.length_append]; exact HXE.out, HTE.out⟩, by rw [← HRR.out]; simp only [intOf, Int.toNat_natCast]; omega⟩
          · have hor : r = 0 ∨ (0 < r ∧ s2.bad = true) := by
              rcases Nat.eq_zero_or_pos r with h | h
              · exact .inl h
              · cases hq : s2.bad with
                | false => exact absurd ⟨h, hq⟩ hgo
                | true => exact .inr ⟨h, rfl⟩
            clear hx htx hrb2
            have HFIN2 := hid (hrep2.fin (by rcases hor with h | h; exact .inl h; exact .inr h.2))
            clear hrep2 hgo
            rcases hor with rfl | ⟨hr0, hbad⟩
            · have d0 := blk_cell (o := 0) (v := Value.slice Af fs.length cf) HXF.out.box rfl
              have d1 := blk_cell (o := 1) (v := Value.slice At ts.length ct) HXF.out.box rfl
              have dl := blk_lt HXF.out.box
              have hres := HXF.out.res
              rw [HN0.out] at hres
              have HRES := hid hres
              have r0 := blk_cell (o := 0) (v := Value.slice none 0 0) hres rfl
              have r1 := blk_cell (o := 1) (v := Value.slice none 0 0) hres rfl
              have rf0 := blk_free (o := 0) hres
              have rf1 := blk_free (o := 1) hres
              have rl := blk_lt hres
              clear hres
              go_wp2
              have hwl : w.heap.size ≤ n0 := by rw [HN0.out]; exact Nat.le_refl _
              have b0 : BoxAt wf n0 0 := BoxAt.mk_ (blk_cell (o := 0) (v := Value.slice none 0 0) HRES.out rfl) (blk_free HRES.out)
              have b1 : BoxAt wf n0 1 := BoxAt.mk_ (blk_cell (o := 1) (v := Value.slice none 0 0) HRES.out rfl) (blk_free HRES.out)
              obtain ⟨z0, z1⟩ := set2_cells b0 b1 (.slice Af fs.length cf) (.slice At ts.length ct)
              refine bodyPost_ret (v := .agg #[.slice Af fs.length cf, .slice At ts.length ct]) (by simp [results, Try.results29, go_sem, z0, z1]) rfl ?_
              have hc : codeR s = (⟨fs, ts⟩, s2) := by
                unfold codeR
                simp only
                rw [HN.out, Int.toNat_natCast, HFIN.out]
                simp only
                rw [HM.out, Int.toNat_natCast, HFIN2.out]
              rw [hc]
              exact code_end HXF.out HTF.out HN0.out HK.out HBDS.out.1 HBDS.out.2
            · rw [hbad] at c1
              have i1 : (0 : Int) < (r : Int) := by omega
              clear hr0 hbad
              have d0 := blk_cell (o := 0) (v := Value.slice Af fs.length cf) HXF.out.box rfl
              have d1 := blk_cell (o := 1) (v := Value.slice At ts.length ct) HXF.out.box rfl
              have dl := blk_lt HXF.out.box
              have hres := HXF.out.res
              rw [HN0.out] at hres
              have HRES := hid hres
              have r0 := blk_cell (o := 0) (v := Value.slice none 0 0) hres rfl
              have r1 := blk_cell (o := 1) (v := Value.slice none 0 0) hres rfl
              have rf0 := blk_free (o := 0) hres
              have rf1 := blk_free (o := 1) hres
              have rl := blk_lt hres
              clear hres
              go_wp2
              have hwl : w.heap.size ≤ n0 := by rw [HN0.out]; exact Nat.le_refl _
              have b0 : BoxAt wf n0 0 := BoxAt.mk_ (blk_cell (o := 0) (v := Value.slice none 0 0) HRES.out rfl) (blk_free HRES.out)
              have b1 : BoxAt wf n0 1 := BoxAt.mk_ (blk_cell (o := 1) (v := Value.slice none 0 0) HRES.out rfl) (blk_free HRES.out)
              obtain ⟨z0, z1⟩ := set2_cells b0 b1 (.slice Af fs.length cf) (.slice At ts.length ct)
              refine bodyPost_ret (v := .agg #[.slice Af fs.length cf, .slice At ts.length ct]) (by simp [results, Try.results29, go_sem, z0, z1]) rfl ?_
              have hc : codeR s = (⟨fs, ts⟩, s2) := by
                unfold codeR
                simp only
                rw [HN.out, Int.toNat_natCast, HFIN.out]
                simp only
                rw [HM.out, Int.toNat_natCast, HFIN2.out]
              rw [hc]
              exact code_end HXF.out HTF.out HN0.out HK.out HBDS.out.1 HBDS.out.2
      · rw [hbad] at c1
        have i1 : (0 : Int) < (r : Int) := by omega
        clear hr0 hbad
        go_upto_region 6 with fail
        clear i1
        obtain ⟨wo, hwo⟩ : ∃ x, x = wr := ⟨_, rfl⟩
        subst hwo
        have hcl := cntR_range s1
        obtain ⟨M, hM⟩ : ∃ M : Nat, (cntR s1).1 = M := ⟨(cntR s1).1.toNat, by omega⟩
        have HML := hid (show M ≤ 1073741824 by have := cntR_le s1; have := HX.out.le; omega)
        have HM := hid hM
        have HTL := hid (show ts.length ≤ 1073741824 by have := HREP.out.2; have := HNL.out; omega)
        clear hcl hM c1 clt
        go_wp2_with (go_at_call 44; go_must (refine (rcnt_any W wo rb s1 HX.out.rdr HX.out.kp).mono ?_); rintro e w3 ⟨rfl, hr3, hg3⟩; rw [HM.out]; have HX3 := hid (HX.out.read HK.out (cntR_le s1) hr3 hg3); have HT3 := hid (HT.out.read HK.out hg3); clear hr3 hg3)
        go_loopw [5] (fun x wr => ∃ (r : Nat) (s2 : RSt) (fs : List FnM) (A : Option Addr) (cc : Nat), x = .int .i64 (r : Int) ∧ RepI fnR M (cntR s1).2 fs r s2 ∧ RcX W w rb cb s2 (.slice A fs.length cc) (.slice At ts.length ct) fs wr ∧ Tx w wr (.slice At ts.length ct) ts) (fun x _ => (intOf x).toNat)
        case atStart => exact ⟨M, (cntR s1).2, [], none, 0, rfl, RepI.start _ _ _, HX3.out, HT3.out⟩
        case round =>
          obtain ⟨wf, hwf⟩ : ∃ x, x = wr := ⟨_, rfl⟩
          subst hwf
          obtain ⟨r, s2, fs, Af, cf, rfl, hrep2, hx, htx⟩ := hrel
          have HXF := hid hx
          have HTF := hid htx
          have HBDS := hid (show fs.length ≤ 1073741824 ∧ ts.length ≤ 1073741824 from ⟨by have := hrep2.2; have := HML.out; omega, HTL.out⟩)
          obtain ⟨Ar2, cr2, hrb2, _⟩ := hx.rdr
          have c1 := blk_cell (o := 1) (v := Value.bool s2.bad) hrb2 rfl
          have clt := blk_lt hrb2
          by_cases hgo : 0 < r ∧ s2.bad = false
          · obtain ⟨hr0, hbad⟩ := hgo
            obtain ⟨r, rfl⟩ : ∃ r', r = r' + 1 := ⟨r - 1, by omega⟩
            rw [hbad] at c1
            have i1 : (0 : Int) < ((r + 1 : Nat) : Int) := by omega
            have HNX := hid (hrep2.step hbad)
            have HB63 := hid (show fs.length + 1 ≤ maxLen by have := hrep2.2; have := HML.out; unfold maxLen; omega)
            have HB64 := hid (show (fs.length + 1) * 64 ≤ 140737488355328 by have := hrep2.2; have := HML.out; omega)
            have k1 : IntKind.i64.wrap (((r + 1 : Nat) : Int) - 1) = (r : Int) := by have := hrep2.2; have := HML.out; rw [IntKind.wrap_i64]; omega
            clear hrep2 hx htx hrb2 hr0 hbad
            generalize hrr : ((r + 1 : Nat) : Int) = ri at i1 k1 ⊢
            have HRR := hid hrr
            clear hrr
            go_upto_region 9 with fail
            clear c1 clt i1
            have HCUR := hid (And.intro HXF.out HTF.out)
            go_upto_region 10 with first | (go_at_call 45; go_must (refine (rtxt_any W _ rb s2 HXF.out.rdr HXF.out.kp HK.out.a).mono ?_); rintro e w5 ⟨rfl, hr4, hg4⟩; have HCUR := hid (And.intro (HXF.out.read HK.out (txtR_le s2) hr4 hg4) (HTF.out.read HK.out hg4)); clear hr4 hg4) | (go_at_call 46; go_must (refine (rnum_any W _ rb _ HCUR.out.1.rdr HCUR.out.1.kp).mono ?_); rintro e w5 ⟨rfl, hr4, hg4⟩; have HCUR := hid (And.intro (HCUR.out.1.read HK.out (numR_le _) hr4 hg4) (HCUR.out.2.read HK.out hg4)); clear hr4 hg4)
            obtain ⟨wN, hwN⟩ : ∃ x, x = w5 := ⟨_, rfl⟩
            subst hwN
            have HXN : Hid (RcX W w rb cb (numR (numR (numR (txtR s2).2).2).2).2 (.slice Af fs.length cf) (.slice At ts.length ct) fs wN ∧ Tx w wN (.slice At ts.length ct) ts) := hid HCUR.out
            have HF0 : Hid (RcF W wN rb (.string (txtR s2).1) (.int .i64 (numR (txtR s2).2).1) (.int .i64 (numR (numR (txtR s2).2).2).1) (.int .i64 (numR (numR (numR (txtR s2).2).2).2).1) (numR (numR (numR (txtR s2).2).2).2).2 (.slice none 0 0) (wN.alloc (.cells #[.string (txtR s2).1, .int .i64 (numR (txtR s2).2).1, .int .i64 (numR (numR (txtR s2).2).2).1, .int .i64 (numR (numR (numR (txtR s2).2).2).2).1, .slice none 0 0] 45))) := hid ⟨HXN.out.1.le, HXN.out.1.rdr.kp ((Kp.refl _).alloc _), HXN.out.1.kp.alloc _, grown_kp ((Kp.refl _).alloc _) _, blk_new _ _⟩
            have HNB := hid (show rb < wN.heap.size by have := HK.out.b; have := HXN.out.1.grown.size; omega)
            generalize wN.alloc (.cells #[.string (txtR s2).1, .int .i64 (numR (txtR s2).2).1, .int .i64 (numR (numR (txtR s2).2).2).1, .int .i64 (numR (numR (numR (txtR s2).2).2).2).1, .slice none 0 0] 45) = W7 at HF0 ⊢
            generalize hnf : wN.heap.size = nf
            have HNF := hid hnf
            clear hnf
            have hcl := cntR_range (numR (numR (numR (txtR s2).2).2).2).2
            obtain ⟨L, hL⟩ : ∃ L : Nat, (cntR (numR (numR (numR (txtR s2).2).2).2).2).1 = L := ⟨(cntR (numR (numR (numR (txtR s2).2).2).2).2).1.toNat, by omega⟩
            have HLL := hid (show L ≤ 1073741824 by have := cntR_le (numR (numR (numR (txtR s2).2).2).2).2; have := HXN.out.1.le; omega)
            have HLN := hid hL
            clear hcl hL
            go_wp2_with (go_at_call 44; go_must (refine (rcnt_any W W7 rb (numR (numR (numR (txtR s2).2).2).2).2 HF0.out.rdr HF0.out.kp).mono ?_); rintro e w8 ⟨rfl, hr8, hg8⟩; rw [HLN.out]; have HF8 := hid (HF0.out.read HK.out.a HNB.out (cntR_le _) hr8 hg8); clear hr8 hg8)
            go_loopw [7] (fun x wr => ∃ (r : Nat) (s3 : RSt) (is : List InsM) (A : Option Addr) (cc : Nat), x = .int .i64 (r : Int) ∧ RepL insR L (cntR (numR (numR (numR (txtR s2).2).2).2).2).2 is r s3 ∧ RcF W wN rb (.string (txtR s2).1) (.int .i64 (numR (txtR s2).2).1) (.int .i64 (numR (numR (txtR s2).2).2).1) (.int .i64 (numR (numR (numR (txtR s2).2).2).2).1) s3 (.slice A is.length cc) wr ∧ Ix wN wr (.slice A is.length cc) is) (fun x _ => (intOf x).toNat)
            case atStart => exact ⟨L, (cntR (numR (numR (numR (txtR s2).2).2).2).2).2, [], none, 0, rfl, ⟨RepI.start _ _ _, Nat.le_refl _⟩, HF8.out, OwnL.nil _ _ _ _ _⟩
            case round =>
              obtain ⟨wt, hwt⟩ : ∃ x, x = wr := ⟨_, rfl⟩
              subst hwt
              obtain ⟨r3, s3, is, Ai, ci, rfl, hrep3, hx3, hix3⟩ := hrel
              have HF3 := hid hx3
              have HI3 := hid hix3
              have HLE3 := hid (show s3.b.length ≤ (numR (numR (numR (txtR s2).2).2).2).2.b.length from rep_le (fun s => ins_len s) hrep3 (cntR_le (numR (numR (numR (txtR s2).2).2).2).2))
              obtain ⟨Ar3, cr3, hrb3, _⟩ := hx3.rdr
              have c1 := blk_cell (o := 1) (v := Value.bool s3.bad) hrb3 rfl
              have clt := blk_lt hrb3
              by_cases hgo : 0 < r3 ∧ s3.bad = false
              · obtain ⟨hr0, hbad⟩ := hgo
                obtain ⟨r3, rfl⟩ : ∃ r', r3 = r' + 1 := ⟨r3 - 1, by omega⟩
                rw [hbad] at c1
                have i1 : (0 : Int) < ((r3 + 1 : Nat) : Int) := by omega
                have HRW := hid (show rb < wt.heap.size ∧ nf < wt.heap.size ∧ wN.heap.size + 1 ≤ wt.heap.size from ⟨blk_lt hrb3, by have h := blk_lt hx3.box; rw [HNF.out] at h; exact h, blk_lt hx3.box⟩)
                have BF := hid (show ∀ g, (Value.slice Ai is.length ci).ownBlock = some g → g < wt.heap.size by obtain ⟨xs, q, _⟩ := hix3; exact fun g hg => (q.lt g hg).2)
                have B1 := hid (show is.length + 1 ≤ maxLen by have := hrep3.1.2; have := HLL.out; unfold maxLen; omega)
                have B2 := hid (show (is.length + 1) * 48 ≤ 140737488355328 by have := hrep3.1.2; have := HLL.out; omega)
                have HNX3 := hid (And.intro (hrep3.1.step hbad) (Nat.le_trans (ins_len s3) hrep3.2))
                have k1 : IntKind.i64.wrap (((r3 + 1 : Nat) : Int) - 1) = (r3 : Int) := by have := hrep3.1.2; have := HLL.out; rw [IntKind.wrap_i64]; omega
                clear hrep3 hx3 hix3 hrb3 hr0 hbad
                generalize hrr : ((r3 + 1 : Nat) : Int) = ri at i1 k1 ⊢
                have HRR3 := hid hrr
                clear hrr
                go_upto_region 13 with fail
                clear c1 clt
                refine wp_region_phase [3, 5, 7, 9, 11, 13, 16, 18] [(0, 6), (0, 6), (0, 0), (0, 0), (0, 1), (0, 0), (0, 2), (0, 0), (0, 3), (0, 0), (0, 4), (0, 0), (0, 5), (0, 0), (6, 6), (6, 6), (0, 0), (0, 7), (0, 0)] (KpF wt.heap.size) [[], [0], [], [2], [], [3, 4], [], [5, 6], [], [7, 8], [], [9, 10], [], [11, 12], [3, 5, 7, 9, 11, 13], [14], [1, 15], [], [16, 17]]
                  (fun (p : Nat) (x : Nat → Value) (u : World) => match p with | 0 => RcF W wN rb (.string (txtR s2).1) (.int .i64 (numR (txtR s2).2).1) (.int .i64 (numR (numR (txtR s2).2).2).1) (.int .i64 (numR (numR (numR (txtR s2).2).2).2).1) s3 (.slice Ai is.length ci) u ∧ Ix wN u (.slice Ai is.length ci) is ∧ wt.heap.size ≤ u.heap.size | 1 => RcF W wN rb (.string (txtR s2).1) (.int .i64 (numR (txtR s2).2).1) (.int .i64 (numR (numR (txtR s2).2).2).1) (.int .i64 (numR (numR (numR (txtR s2).2).2).2).1) (numR s3).2 (.slice Ai is.length ci) u ∧ Ix wN u (.slice Ai is.length ci) is ∧ wt.heap.size ≤ u.heap.size | 2 => RcF W wN rb (.string (txtR s2).1) (.int .i64 (numR (txtR s2).2).1) (.int .i64 (numR (numR (txtR s2).2).2).1) (.int .i64 (numR (numR (numR (txtR s2).2).2).2).1) (numR (numR s3).2).2 (.slice Ai is.length ci) u ∧ Ix wN u (.slice Ai is.length ci) is ∧ wt.heap.size ≤ u.heap.size | 3 => RcF W wN rb (.string (txtR s2).1) (.int .i64 (numR (txtR s2).2).1) (.int .i64 (numR (numR (txtR s2).2).2).1) (.int .i64 (numR (numR (numR (txtR s2).2).2).2).1) (numR (numR (numR s3).2).2).2 (.slice Ai is.length ci) u ∧ Ix wN u (.slice Ai is.length ci) is ∧ wt.heap.size ≤ u.heap.size | 4 => RcF W wN rb (.string (txtR s2).1) (.int .i64 (numR (txtR s2).2).1) (.int .i64 (numR (numR (txtR s2).2).2).1) (.int .i64 (numR (numR (numR (txtR s2).2).2).2).1) (numR (numR (numR (numR s3).2).2).2).2 (.slice Ai is.length ci) u ∧ Ix wN u (.slice Ai is.length ci) is ∧ wt.heap.size ≤ u.heap.size | 5 => RcF W wN rb (.string (txtR s2).1) (.int .i64 (numR (txtR s2).2).1) (.int .i64 (numR (numR (txtR s2).2).2).1) (.int .i64 (numR (numR (numR (txtR s2).2).2).2).1) (numR (numR (numR (numR (numR s3).2).2).2).2).2 (.slice Ai is.length ci) u ∧ Ix wN u (.slice Ai is.length ci) is ∧ wt.heap.size ≤ u.heap.size | 6 => RcF W wN rb (.string (txtR s2).1) (.int .i64 (numR (txtR s2).2).1) (.int .i64 (numR (numR (txtR s2).2).2).1) (.int .i64 (numR (numR (numR (txtR s2).2).2).2).1) (numR (numR (numR (numR (numR (numR s3).2).2).2).2).2).2 (.slice Ai is.length ci) u ∧ Ix wN u (.slice Ai is.length ci) is ∧ wt.heap.size ≤ u.heap.size | 7 => RcF W wN rb (.string (txtR s2).1) (.int .i64 (numR (txtR s2).2).1) (.int .i64 (numR (numR (txtR s2).2).2).1) (.int .i64 (numR (numR (numR (txtR s2).2).2).2).1) (numR (numR (numR (numR (numR (numR s3).2).2).2).2).2).2 (.slice Ai is.length ci) u ∧ (∃ A c, x 16 = .slice A (is.length + 1) c ∧ Ix wN u (.slice A (is.length + 1) c) (is ++ [(insR s3).1])) ∧ wt.heap.size ≤ u.heap.size | _ => ∃ A c, RcF W wN rb (.string (txtR s2).1) (.int .i64 (numR (txtR s2).2).1) (.int .i64 (numR (numR (txtR s2).2).2).1) (.int .i64 (numR (numR (numR (txtR s2).2).2).2).1) (numR (numR (numR (numR (numR (numR s3).2).2).2).2).2).2 (.slice A (is.length + 1) c) u ∧ Ix wN u (.slice A (is.length + 1) c) (is ++ [(insR s3).1]))
                  [fun (y : Value) (u : World) => y = (.pointer (some ⟨nf, 4, none⟩) : Value),
                   fun (y : Value) (u : World) => y = (.slice Ai is.length ci : Value),
                   fun (y : Value) (u : World) => y = (.pointer (some ⟨rb, 0, none⟩) : Value),
                   fun (y : Value) (u : World) => y = (.int .i64 (numR s3).1 : Value),
                   fun (y : Value) (u : World) => y = (.pointer (some ⟨rb, 0, none⟩) : Value),
                   fun (y : Value) (u : World) => y = (.int .i64 (numR (numR s3).2).1 : Value),
                   fun (y : Value) (u : World) => y = (.pointer (some ⟨rb, 0, none⟩) : Value),
                   fun (y : Value) (u : World) => y = (.int .i64 (numR (numR (numR s3).2).2).1 : Value),
                   fun (y : Value) (u : World) => y = (.pointer (some ⟨rb, 0, none⟩) : Value),
                   fun (y : Value) (u : World) => y = (.int .i64 (numR (numR (numR (numR s3).2).2).2).1 : Value),
                   fun (y : Value) (u : World) => y = (.pointer (some ⟨rb, 0, none⟩) : Value),
                   fun (y : Value) (u : World) => y = (.int .i64 (numR (numR (numR (numR (numR s3).2).2).2).2).1 : Value),
                   fun (y : Value) (u : World) => y = (.pointer (some ⟨rb, 0, none⟩) : Value),
                   fun (y : Value) (u : World) => y = (.int .i64 (numR (numR (numR (numR (numR (numR s3).2).2).2).2).2).1 : Value),
                   fun (y : Value) (u : World) => y = (.agg #[.int .i64 (numR s3).1, .int .i64 (numR (numR s3).2).1, .int .i64 (numR (numR (numR s3).2).2).1, .int .i64 (numR (numR (numR (numR s3).2).2).2).1, .int .i64 (numR (numR (numR (numR (numR s3).2).2).2).2).1, .int .i64 (numR (numR (numR (numR (numR (numR s3).2).2).2).2).2).1] : Value),
                   fun (y : Value) (u : World) => LitAt wt.heap.size 64 #[.int .i64 (numR s3).1, .int .i64 (numR (numR s3).2).1, .int .i64 (numR (numR (numR s3).2).2).1, .int .i64 (numR (numR (numR (numR s3).2).2).2).1, .int .i64 (numR (numR (numR (numR (numR s3).2).2).2).2).1, .int .i64 (numR (numR (numR (numR (numR (numR s3).2).2).2).2).2).1] y u,
                   fun (y : Value) (u : World) => True,
                   fun (y : Value) (u : World) => y = (.pointer (some ⟨nf, 4, none⟩) : Value),
                   fun (y : Value) (u : World) => True]
                  (by kernel_rfl) (by kernel_rfl) (by kernel_rfl) (by kernel_rfl) (by kernel_rfl) (by kernel_rfl) (fun _ _ hk => KpF.of_kp hk) (⟨HF3.out.keep (Kp.refl _).drew, HI3.out.keep (Kp.refl _).drew, Nat.le_refl _⟩) ?hKd ?hXd ⟨fun _ _ _ _ h => h, fun _ _ _ _ h => h, fun _ _ _ _ h => h, fun _ _ _ _ h => h, fun _ _ _ _ h => h, fun _ _ _ _ h => h, fun _ _ _ _ h => h, fun _ _ _ _ h => h, fun _ _ _ _ h => h, fun _ _ _ _ h => h, fun _ _ _ _ h => h, fun _ _ _ _ h => h, fun _ _ _ _ h => h, fun _ _ _ _ h => h, fun _ _ _ _ h => h, fun _ _ _ hk h => h.keep hk, fun _ _ _ _ _ => trivial, fun _ _ _ _ h => h, fun _ _ _ _ _ => trivial, trivial⟩ ⟨?sd0, ?sd1, ?sd2, ?sd3, ?sd4, ?sd5, ?sd6, ?sd7, ?sd8, ?sd9, ?sd10, ?sd11, ?sd12, ?sd13, ?sd14, ?sd15, ?sd16, ?sd17, ?sd18, trivial⟩ ?hEd
                case hKd =>
                  intro p x w w' hk h
                  rcases p with _ | _ | _ | _ | _ | _ | _ | _ | p
                  · exact ⟨h.1.keep hk, h.2.1.keep hk, Nat.le_trans h.2.2 hk.le⟩
                  · exact ⟨h.1.keep hk, h.2.1.keep hk, Nat.le_trans h.2.2 hk.le⟩
                  · exact ⟨h.1.keep hk, h.2.1.keep hk, Nat.le_trans h.2.2 hk.le⟩
                  · exact ⟨h.1.keep hk, h.2.1.keep hk, Nat.le_trans h.2.2 hk.le⟩
                  · exact ⟨h.1.keep hk, h.2.1.keep hk, Nat.le_trans h.2.2 hk.le⟩
                  · exact ⟨h.1.keep hk, h.2.1.keep hk, Nat.le_trans h.2.2 hk.le⟩
                  · exact ⟨h.1.keep hk, h.2.1.keep hk, Nat.le_trans h.2.2 hk.le⟩
                  · exact ⟨h.1.keep hk, (by obtain ⟨A, c, h1, h2⟩ := h.2.1; exact ⟨A, c, h1, h2.keep hk⟩), Nat.le_trans h.2.2 hk.le⟩
                  · exact (by obtain ⟨A, c, h1, h2⟩ := h; exact ⟨A, c, h1.keep hk, h2.keep hk⟩)
                case hXd =>
                  intro p x i v w hi h
                  have e0 : upd x i v 3 = x 3 := if_neg (fun hh => hi (by rw [← hh]; decide))
                  have e1 : upd x i v 5 = x 5 := if_neg (fun hh => hi (by rw [← hh]; decide))
                  have e2 : upd x i v 7 = x 7 := if_neg (fun hh => hi (by rw [← hh]; decide))
                  have e3 : upd x i v 9 = x 9 := if_neg (fun hh => hi (by rw [← hh]; decide))
                  have e4 : upd x i v 11 = x 11 := if_neg (fun hh => hi (by rw [← hh]; decide))
                  have e5 : upd x i v 13 = x 13 := if_neg (fun hh => hi (by rw [← hh]; decide))
                  have e6 : upd x i v 16 = x 16 := if_neg (fun hh => hi (by rw [← hh]; decide))
                  have e7 : upd x i v 18 = x 18 := if_neg (fun hh => hi (by rw [← hh]; decide))
                  rcases p with _ | _ | _ | _ | _ | _ | _ | _ | p
                  · first | exact h | (simp only [e0, e1, e2, e3, e4, e5, e6, e7]; exact h)
                  · first | exact h | (simp only [e0, e1, e2, e3, e4, e5, e6, e7]; exact h)
                  · first | exact h | (simp only [e0, e1, e2, e3, e4, e5, e6, e7]; exact h)
                  · first | exact h | (simp only [e0, e1, e2, e3, e4, e5, e6, e7]; exact h)
                  · first | exact h | (simp only [e0, e1, e2, e3, e4, e5, e6, e7]; exact h)
                  · first | exact h | (simp only [e0, e1, e2, e3, e4, e5, e6, e7]; exact h)
                  · first | exact h | (simp only [e0, e1, e2, e3, e4, e5, e6, e7]; exact h)
                  · first | exact h | (simp only [e0, e1, e2, e3, e4, e5, e6, e7]; exact h)
                  · first | exact h | (simp only [e0, e1, e2, e3, e4, e5, e6, e7]; exact h)
                case sd0 =>
                  refine OpStepQ.off 0 6 (by kernel_rfl) (by kernel_rfl) ?_
                  intro x u p hp hg hd K hK
                  clear hd
                  refine ⟨?_⟩
                  simp only [putsFrom, Act.put, List.setIfInBounds_toArray, List.set_cons_zero, List.set_cons_succ, Nat.reduceAdd] at hK ⊢
                  go_simp
                  exact hK.out _ _ (Kp.refl _) rfl
                case sd1 =>
                  refine OpStepQ.off 0 6 (by kernel_rfl) (by kernel_rfl) ?_
                  intro x u p hp hg hd K hK
                  have d0 : (x 0) = .pointer (some ⟨nf, 4, none⟩) := And.left hd
                  clear hd
                  have hb : u.heap[wN.heap.size]? = some (.cells #[.string (txtR s2).1, .int .i64 (numR (txtR s2).2).1, .int .i64 (numR (numR (txtR s2).2).2).1, .int .i64 (numR (numR (numR (txtR s2).2).2).2).1, .slice Ai is.length ci] 45 (0, 0)) := by
                    rcases p with _ | _ | _ | _ | _ | _ | _ | _ | p
                    · exact hg.1.box
                    · exact hg.1.box
                    · exact hg.1.box
                    · exact hg.1.box
                    · exact hg.1.box
                    · exact hg.1.box
                    · exact hg.1.box
                    · exact hg.1.box
                    · omega
                  rw [HNF.out] at hb
                  have q := blk_cell (o := 4) (v := Value.slice Ai is.length ci) hb rfl
                  clear hb hg
                  refine ⟨?_⟩
                  simp only [putsFrom, Act.put, List.setIfInBounds_toArray, List.set_cons_zero, List.set_cons_succ, Nat.reduceAdd, d0] at hK ⊢
                  go_simp
                  exact hK.out _ _ (Kp.refl _) rfl
                case sd2 =>
                  refine OpStepQ.off 0 0 (by kernel_rfl) (by kernel_rfl) ?_
                  intro x u p hp hg hd K hK
                  obtain rfl : p = 0 := by omega
                  change RcF W wN rb (.string (txtR s2).1) (.int .i64 (numR (txtR s2).2).1) (.int .i64 (numR (numR (txtR s2).2).2).1) (.int .i64 (numR (numR (numR (txtR s2).2).2).2).1) s3 (.slice Ai is.length ci) u ∧ Ix wN u (.slice Ai is.length ci) is ∧ wt.heap.size ≤ u.heap.size at hg
                  clear hd
                  refine ⟨?_⟩
                  simp only [putsFrom, Act.put, List.setIfInBounds_toArray, List.set_cons_zero, List.set_cons_succ, Nat.reduceAdd] at hK ⊢
                  go_simp
                  exact hK.out _ _ (Kp.refl _) rfl
                case sd3 =>
                  refine OpStepQ.on 0 (by kernel_rfl) (by kernel_rfl) ?_
                  intro x u hg hd K hK
                  change RcF W wN rb (.string (txtR s2).1) (.int .i64 (numR (txtR s2).2).1) (.int .i64 (numR (numR (txtR s2).2).2).1) (.int .i64 (numR (numR (numR (txtR s2).2).2).2).1) s3 (.slice Ai is.length ci) u ∧ Ix wN u (.slice Ai is.length ci) is ∧ wt.heap.size ≤ u.heap.size at hg
                  have d2 : (x 2) = .pointer (some ⟨rb, 0, none⟩) := And.left hd
                  clear hd
                  refine ⟨?_⟩
                  simp only [putsFrom, Act.put, List.setIfInBounds_toArray, List.set_cons_zero, List.set_cons_succ, Nat.reduceAdd, d2] at hK ⊢
                  go_simp
                  go_at_call 46
                  have hc := (rnum_any W u rb s3 hg.1.rdr hg.1.kp)
                  refine hc.mono ?_
                  clear hc
                  rintro e u' ⟨rfl, hr, hgr⟩
                  dsimp only
                  exact hK.out _ _ (KpF.of_grown hgr (fun g hg => by injection hg with hg; have := HRW.out; omega)) ⟨hg.1.read HK.out.a HNB.out (numR_le _) hr hgr, hg.2.1.read HNB.out hgr, Nat.le_trans hg.2.2 hgr.size⟩ rfl
                case sd4 =>
                  refine OpStepQ.off 0 1 (by kernel_rfl) (by kernel_rfl) ?_
                  intro x u p hp hg hd K hK
                  clear hd
                  refine ⟨?_⟩
                  simp only [putsFrom, Act.put, List.setIfInBounds_toArray, List.set_cons_zero, List.set_cons_succ, Nat.reduceAdd] at hK ⊢
                  go_simp
                  exact hK.out _ _ (Kp.refl _) rfl
                case sd5 =>
                  refine OpStepQ.on 1 (by kernel_rfl) (by kernel_rfl) ?_
                  intro x u hg hd K hK
                  change RcF W wN rb (.string (txtR s2).1) (.int .i64 (numR (txtR s2).2).1) (.int .i64 (numR (numR (txtR s2).2).2).1) (.int .i64 (numR (numR (numR (txtR s2).2).2).2).1) (numR s3).2 (.slice Ai is.length ci) u ∧ Ix wN u (.slice Ai is.length ci) is ∧ wt.heap.size ≤ u.heap.size at hg
                  have d3 : (x 3) = .int .i64 (numR s3).1 := And.left hd
                  have d4 : (x 4) = .pointer (some ⟨rb, 0, none⟩) := And.left (And.right hd)
                  clear hd
                  refine ⟨?_⟩
                  simp only [putsFrom, Act.put, List.setIfInBounds_toArray, List.set_cons_zero, List.set_cons_succ, Nat.reduceAdd, d3, d4] at hK ⊢
                  go_simp
                  go_at_call 46
                  have hc := (rnum_any W u rb (numR s3).2 hg.1.rdr hg.1.kp)
                  refine hc.mono ?_
                  clear hc
                  rintro e u' ⟨rfl, hr, hgr⟩
                  dsimp only
                  exact hK.out _ _ (KpF.of_grown hgr (fun g hg => by injection hg with hg; have := HRW.out; omega)) ⟨hg.1.read HK.out.a HNB.out (numR_le _) hr hgr, hg.2.1.read HNB.out hgr, Nat.le_trans hg.2.2 hgr.size⟩ rfl
                case sd6 =>
                  refine OpStepQ.off 0 2 (by kernel_rfl) (by kernel_rfl) ?_
                  intro x u p hp hg hd K hK
                  clear hd
                  refine ⟨?_⟩
                  simp only [putsFrom, Act.put, List.setIfInBounds_toArray, List.set_cons_zero, List.set_cons_succ, Nat.reduceAdd] at hK ⊢
                  go_simp
                  exact hK.out _ _ (Kp.refl _) rfl
                case sd7 =>
                  refine OpStepQ.on 2 (by kernel_rfl) (by kernel_rfl) ?_
                  intro x u hg hd K hK
                  change RcF W wN rb (.string (txtR s2).1) (.int .i64 (numR (txtR s2).2).1) (.int .i64 (numR (numR (txtR s2).2).2).1) (.int .i64 (numR (numR (numR (txtR s2).2).2).2).1) (numR (numR s3).2).2 (.slice Ai is.length ci) u ∧ Ix wN u (.slice Ai is.length ci) is ∧ wt.heap.size ≤ u.heap.size at hg
                  have d5 : (x 5) = .int .i64 (numR (numR s3).2).1 := And.left hd
                  have d6 : (x 6) = .pointer (some ⟨rb, 0, none⟩) := And.left (And.right hd)
                  clear hd
                  refine ⟨?_⟩
                  simp only [putsFrom, Act.put, List.setIfInBounds_toArray, List.set_cons_zero, List.set_cons_succ, Nat.reduceAdd, d5, d6] at hK ⊢
                  go_simp
                  go_at_call 46
                  have hc := (rnum_any W u rb (numR (numR s3).2).2 hg.1.rdr hg.1.kp)
                  refine hc.mono ?_
                  clear hc
                  rintro e u' ⟨rfl, hr, hgr⟩
                  dsimp only
                  exact hK.out _ _ (KpF.of_grown hgr (fun g hg => by injection hg with hg; have := HRW.out; omega)) ⟨hg.1.read HK.out.a HNB.out (numR_le _) hr hgr, hg.2.1.read HNB.out hgr, Nat.le_trans hg.2.2 hgr.size⟩ rfl
                case sd8 =>
                  refine OpStepQ.off 0 3 (by kernel_rfl) (by kernel_rfl) ?_
                  intro x u p hp hg hd K hK
                  clear hd
                  refine ⟨?_⟩
                  simp only [putsFrom, Act.put, List.setIfInBounds_toArray, List.set_cons_zero, List.set_cons_succ, Nat.reduceAdd] at hK ⊢
                  go_simp
                  exact hK.out _ _ (Kp.refl _) rfl
                case sd9 =>
                  refine OpStepQ.on 3 (by kernel_rfl) (by kernel_rfl) ?_
                  intro x u hg hd K hK
                  change RcF W wN rb (.string (txtR s2).1) (.int .i64 (numR (txtR s2).2).1) (.int .i64 (numR (numR (txtR s2).2).2).1) (.int .i64 (numR (numR (numR (txtR s2).2).2).2).1) (numR (numR (numR s3).2).2).2 (.slice Ai is.length ci) u ∧ Ix wN u (.slice Ai is.length ci) is ∧ wt.heap.size ≤ u.heap.size at hg
                  have d7 : (x 7) = .int .i64 (numR (numR (numR s3).2).2).1 := And.left hd
                  have d8 : (x 8) = .pointer (some ⟨rb, 0, none⟩) := And.left (And.right hd)
                  clear hd
                  refine ⟨?_⟩
                  simp only [putsFrom, Act.put, List.setIfInBounds_toArray, List.set_cons_zero, List.set_cons_succ, Nat.reduceAdd, d7, d8] at hK ⊢
                  go_simp
                  go_at_call 46
                  have hc := (rnum_any W u rb (numR (numR (numR s3).2).2).2 hg.1.rdr hg.1.kp)
                  refine hc.mono ?_
                  clear hc
                  rintro e u' ⟨rfl, hr, hgr⟩
                  dsimp only
                  exact hK.out _ _ (KpF.of_grown hgr (fun g hg => by injection hg with hg; have := HRW.out; omega)) ⟨hg.1.read HK.out.a HNB.out (numR_le _) hr hgr, hg.2.1.read HNB.out hgr, Nat.le_trans hg.2.2 hgr.size⟩ rfl
                case sd10 =>
                  refine OpStepQ.off 0 4 (by kernel_rfl) (by kernel_rfl) ?_
                  intro x u p hp hg hd K hK
                  clear hd
                  refine ⟨?_⟩
                  simp only [putsFrom, Act.put, List.setIfInBounds_toArray, List.set_cons_zero, List.set_cons_succ, Nat.reduceAdd] at hK ⊢
                  go_simp
                  exact hK.out _ _ (Kp.refl _) rfl
                case sd11 =>
                  refine OpStepQ.on 4 (by kernel_rfl) (by kernel_rfl) ?_
                  intro x u hg hd K hK
                  change RcF W wN rb (.string (txtR s2).1) (.int .i64 (numR (txtR s2).2).1) (.int .i64 (numR (numR (txtR s2).2).2).1) (.int .i64 (numR (numR (numR (txtR s2).2).2).2).1) (numR (numR (numR (numR s3).2).2).2).2 (.slice Ai is.length ci) u ∧ Ix wN u (.slice Ai is.length ci) is ∧ wt.heap.size ≤ u.heap.size at hg
                  have d9 : (x 9) = .int .i64 (numR (numR (numR (numR s3).2).2).2).1 := And.left hd
                  have d10 : (x 10) = .pointer (some ⟨rb, 0, none⟩) := And.left (And.right hd)
                  clear hd
                  refine ⟨?_⟩
                  simp only [putsFrom, Act.put, List.setIfInBounds_toArray, List.set_cons_zero, List.set_cons_succ, Nat.reduceAdd, d9, d10] at hK ⊢
                  go_simp
                  go_at_call 46
                  have hc := (rnum_any W u rb (numR (numR (numR (numR s3).2).2).2).2 hg.1.rdr hg.1.kp)
                  refine hc.mono ?_
                  clear hc
                  rintro e u' ⟨rfl, hr, hgr⟩
                  dsimp only
                  exact hK.out _ _ (KpF.of_grown hgr (fun g hg => by injection hg with hg; have := HRW.out; omega)) ⟨hg.1.read HK.out.a HNB.out (numR_le _) hr hgr, hg.2.1.read HNB.out hgr, Nat.le_trans hg.2.2 hgr.size⟩ rfl
                case sd12 =>
                  refine OpStepQ.off 0 5 (by kernel_rfl) (by kernel_rfl) ?_
                  intro x u p hp hg hd K hK
                  clear hd
                  refine ⟨?_⟩
                  simp only [putsFrom, Act.put, List.setIfInBounds_toArray, List.set_cons_zero, List.set_cons_succ, Nat.reduceAdd] at hK ⊢
                  go_simp
                  exact hK.out _ _ (Kp.refl _) rfl
                case sd13 =>
                  refine OpStepQ.on 5 (by kernel_rfl) (by kernel_rfl) ?_
                  intro x u hg hd K hK
                  change RcF W wN rb (.string (txtR s2).1) (.int .i64 (numR (txtR s2).2).1) (.int .i64 (numR (numR (txtR s2).2).2).1) (.int .i64 (numR (numR (numR (txtR s2).2).2).2).1) (numR (numR (numR (numR (numR s3).2).2).2).2).2 (.slice Ai is.length ci) u ∧ Ix wN u (.slice Ai is.length ci) is ∧ wt.heap.size ≤ u.heap.size at hg
                  have d11 : (x 11) = .int .i64 (numR (numR (numR (numR (numR s3).2).2).2).2).1 := And.left hd
                  have d12 : (x 12) = .pointer (some ⟨rb, 0, none⟩) := And.left (And.right hd)
                  clear hd
                  refine ⟨?_⟩
                  simp only [putsFrom, Act.put, List.setIfInBounds_toArray, List.set_cons_zero, List.set_cons_succ, Nat.reduceAdd, d11, d12] at hK ⊢
                  go_simp
                  go_at_call 46
                  have hc := (rnum_any W u rb (numR (numR (numR (numR (numR s3).2).2).2).2).2 hg.1.rdr hg.1.kp)
                  refine hc.mono ?_
                  clear hc
                  rintro e u' ⟨rfl, hr, hgr⟩
                  dsimp only
                  exact hK.out _ _ (KpF.of_grown hgr (fun g hg => by injection hg with hg; have := HRW.out; omega)) ⟨hg.1.read HK.out.a HNB.out (numR_le _) hr hgr, hg.2.1.read HNB.out hgr, Nat.le_trans hg.2.2 hgr.size⟩ rfl
                case sd14 =>
                  refine OpStepQ.off 6 6 (by kernel_rfl) (by kernel_rfl) ?_
                  intro x u p hp hg hd K hK
                  obtain rfl : p = 6 := by omega
                  change RcF W wN rb (.string (txtR s2).1) (.int .i64 (numR (txtR s2).2).1) (.int .i64 (numR (numR (txtR s2).2).2).1) (.int .i64 (numR (numR (numR (txtR s2).2).2).2).1) (numR (numR (numR (numR (numR (numR s3).2).2).2).2).2).2 (.slice Ai is.length ci) u ∧ Ix wN u (.slice Ai is.length ci) is ∧ wt.heap.size ≤ u.heap.size at hg
                  have d3 : (x 3) = .int .i64 (numR s3).1 := And.left hd
                  have d5 : (x 5) = .int .i64 (numR (numR s3).2).1 := And.left (And.right hd)
                  have d7 : (x 7) = .int .i64 (numR (numR (numR s3).2).2).1 := And.left (And.right (And.right hd))
                  have d9 : (x 9) = .int .i64 (numR (numR (numR (numR s3).2).2).2).1 := And.left (And.right (And.right (And.right hd)))
                  have d11 : (x 11) = .int .i64 (numR (numR (numR (numR (numR s3).2).2).2).2).1 := And.left (And.right (And.right (And.right (And.right hd))))
                  have d13 : (x 13) = .int .i64 (numR (numR (numR (numR (numR (numR s3).2).2).2).2).2).1 := And.left (And.right (And.right (And.right (And.right (And.right hd)))))
                  clear hd
                  refine ⟨?_⟩
                  simp only [putsFrom, Act.put, List.setIfInBounds_toArray, List.set_cons_zero, List.set_cons_succ, Nat.reduceAdd, d3, d5, d7, d9, d11, d13] at hK ⊢
                  go_simp
                  exact hK.out _ _ (Kp.refl _) rfl
                case sd15 =>
                  refine OpStepQ.off 6 6 (by kernel_rfl) (by kernel_rfl) ?_
                  intro x u p hp hg hd K hK
                  obtain rfl : p = 6 := by omega
                  change RcF W wN rb (.string (txtR s2).1) (.int .i64 (numR (txtR s2).2).1) (.int .i64 (numR (numR (txtR s2).2).2).1) (.int .i64 (numR (numR (numR (txtR s2).2).2).2).1) (numR (numR (numR (numR (numR (numR s3).2).2).2).2).2).2 (.slice Ai is.length ci) u ∧ Ix wN u (.slice Ai is.length ci) is ∧ wt.heap.size ≤ u.heap.size at hg
                  have d14 : (x 14) = .agg #[.int .i64 (numR s3).1, .int .i64 (numR (numR s3).2).1, .int .i64 (numR (numR (numR s3).2).2).1, .int .i64 (numR (numR (numR (numR s3).2).2).2).1, .int .i64 (numR (numR (numR (numR (numR s3).2).2).2).2).1, .int .i64 (numR (numR (numR (numR (numR (numR s3).2).2).2).2).2).1] := And.left hd
                  clear hd
                  refine ⟨?_⟩
                  simp only [putsFrom, Act.put, List.setIfInBounds_toArray, List.set_cons_zero, List.set_cons_succ, Nat.reduceAdd, d14] at hK ⊢
                  go_simp
                  exact hK.out _ _ ((Kp.refl _).alloc _) ⟨_, rfl, hg.2.2, blk_new _ _⟩
                case sd16 =>
                  refine OpStepQ.on 6 (by kernel_rfl) (by kernel_rfl) ?_
                  intro x u hg hd K hK
                  change RcF W wN rb (.string (txtR s2).1) (.int .i64 (numR (txtR s2).2).1) (.int .i64 (numR (numR (txtR s2).2).2).1) (.int .i64 (numR (numR (numR (txtR s2).2).2).2).1) (numR (numR (numR (numR (numR (numR s3).2).2).2).2).2).2 (.slice Ai is.length ci) u ∧ Ix wN u (.slice Ai is.length ci) is ∧ wt.heap.size ≤ u.heap.size at hg
                  have d1 : (x 1) = .slice Ai is.length ci := And.left hd
                  have d15 : LitAt wt.heap.size 64 #[.int .i64 (numR s3).1, .int .i64 (numR (numR s3).2).1, .int .i64 (numR (numR (numR s3).2).2).1, .int .i64 (numR (numR (numR (numR s3).2).2).2).1, .int .i64 (numR (numR (numR (numR (numR s3).2).2).2).2).1, .int .i64 (numR (numR (numR (numR (numR (numR s3).2).2).2).2).2).1] (x 15) u := And.left (And.right hd)
                  clear hd
                  obtain ⟨b, e6, hb6, hlit⟩ := d15
                  obtain ⟨xs, l1, l2⟩ := hg.2.1
                  refine ⟨?_⟩
                  simp only [putsFrom, Act.put, List.setIfInBounds_toArray, List.set_cons_zero, List.set_cons_succ, Nat.reduceAdd, d1, e6] at hK ⊢
                  rw [if_pos (by simp [Region.wanted])]
                  refine wp_appP elIns (.tmp 64) (.tmp 78) (by rfl) l1 (by rfl) [.int .i64 (numR s3).1, .int .i64 (numR (numR s3).2).1, .int .i64 (numR (numR (numR s3).2).2).1, .int .i64 (numR (numR (numR (numR s3).2).2).2).1, .int .i64 (numR (numR (numR (numR (numR s3).2).2).2).2).1, .int .i64 (numR (numR (numR (numR (numR (numR s3).2).2).2).2).2).1] _ 1 1 (by rfl) rfl (fun _ => ⟨_, rfl, lit_src hlit⟩) (by intro u hu; simp at hu; rcases hu with rfl | rfl | rfl | rfl | rfl | rfl <;> rfl) B1.out B2.out (Nat.le_trans HRW.out.2.2 hg.2.2) ?_
                  intro v' w' G1 G2 G3 G4
                  obtain ⟨A', c', rfl⟩ := own_form G1
                  exact hK.out _ w' (KpF.of_grown G2 BF.out) ⟨hg.1.app HK.out.a HNB.out (Touch.of_grown l1 G2) G4, ⟨A', c', rfl, OwnL.snoc (n := is.length + 1) rfl l2 (fun _ _ h => CeIns.any h) ⟨rfl, insR_okI s3⟩ rfl G1⟩, Nat.le_trans hg.2.2 G2.size⟩ trivial
                case sd17 =>
                  refine OpStepQ.off 0 7 (by kernel_rfl) (by kernel_rfl) ?_
                  intro x u p hp hg hd K hK
                  clear hd
                  refine ⟨?_⟩
                  simp only [putsFrom, Act.put, List.setIfInBounds_toArray, List.set_cons_zero, List.set_cons_succ, Nat.reduceAdd] at hK ⊢
                  go_simp
                  exact hK.out _ _ (Kp.refl _) rfl
                case sd18 =>
                  refine OpStepQ.on 7 (by kernel_rfl) (by kernel_rfl) ?_
                  intro x u hg hd K hK
                  change RcF W wN rb (.string (txtR s2).1) (.int .i64 (numR (txtR s2).2).1) (.int .i64 (numR (numR (txtR s2).2).2).1) (.int .i64 (numR (numR (numR (txtR s2).2).2).2).1) (numR (numR (numR (numR (numR (numR s3).2).2).2).2).2).2 (.slice Ai is.length ci) u ∧ (∃ A c, x 16 = .slice A (is.length + 1) c ∧ Ix wN u (.slice A (is.length + 1) c) (is ++ [(insR s3).1])) ∧ wt.heap.size ≤ u.heap.size at hg
                  have d17 : (x 17) = .pointer (some ⟨nf, 4, none⟩) := And.left (And.right hd)
                  clear hd
                  obtain ⟨hg1, ⟨A7, c7, e7, hg2⟩, hg3⟩ := hg
                  have hb := hg1.box
                  rw [HNF.out] at hb
                  have q := blk_cell (o := 4) (v := Value.slice Ai is.length ci) hb rfl
                  have qf := blk_free (o := 4) hb
                  have HG1 := hid (hg1.set4 HK.out.a HNB.out (.slice A7 (is.length + 1) c7))
                  have HG2 := hid (hg2.set4 hg1.box (.slice A7 (is.length + 1) c7))
                  rw [HNF.out] at HG1 HG2
                  clear hb hg1 hg2 hg3
                  refine ⟨?_⟩
                  simp only [putsFrom, Act.put, List.setIfInBounds_toArray, List.set_cons_zero, List.set_cons_succ, Nat.reduceAdd, d17, e7] at hK ⊢
                  go_simp
                  exact hK.out undef _ (KpF.setCell HRW.out.2.1 _) ⟨A7, c7, HG1.out, HG2.out⟩ trivial
                intro x u hg he
                have d0 : (x 0) = .pointer (some ⟨nf, 4, none⟩) := And.left he
                have d1 : (x 1) = .slice Ai is.length ci := And.left (And.right he)
                have d2 : (x 2) = .pointer (some ⟨rb, 0, none⟩) := And.left (And.right (And.right he))
                have d3 : (x 3) = .int .i64 (numR s3).1 := And.left (And.right (And.right (And.right he)))
                have d4 : (x 4) = .pointer (some ⟨rb, 0, none⟩) := And.left (And.right (And.right (And.right (And.right he))))
                have d5 : (x 5) = .int .i64 (numR (numR s3).2).1 := And.left (And.right (And.right (And.right (And.right (And.right he)))))
                have d6 : (x 6) = .pointer (some ⟨rb, 0, none⟩) := And.left (And.right (And.right (And.right (And.right (And.right (And.right he))))))
                have d7 : (x 7) = .int .i64 (numR (numR (numR s3).2).2).1 := And.left (And.right (And.right (And.right (And.right (And.right (And.right (And.right he)))))))
                have d8 : (x 8) = .pointer (some ⟨rb, 0, none⟩) := And.left (And.right (And.right (And.right (And.right (And.right (And.right (And.right (And.right he))))))))
                have d9 : (x 9) = .int .i64 (numR (numR (numR (numR s3).2).2).2).1 := And.left (And.right (And.right (And.right (And.right (And.right (And.right (And.right (And.right (And.right he)))))))))
                have d10 : (x 10) = .pointer (some ⟨rb, 0, none⟩) := And.left (And.right (And.right (And.right (And.right (And.right (And.right (And.right (And.right (And.right (And.right he))))))))))
                have d11 : (x 11) = .int .i64 (numR (numR (numR (numR (numR s3).2).2).2).2).1 := And.left (And.right (And.right (And.right (And.right (And.right (And.right (And.right (And.right (And.right (And.right (And.right he)))))))))))
                have d12 : (x 12) = .pointer (some ⟨rb, 0, none⟩) := And.left (And.right (And.right (And.right (And.right (And.right (And.right (And.right (And.right (And.right (And.right (And.right (And.right he))))))))))))
                have d13 : (x 13) = .int .i64 (numR (numR (numR (numR (numR (numR s3).2).2).2).2).2).1 := And.left (And.right (And.right (And.right (And.right (And.right (And.right (And.right (And.right (And.right (And.right (And.right (And.right (And.right he)))))))))))))
                have d14 : (x 14) = .agg #[.int .i64 (numR s3).1, .int .i64 (numR (numR s3).2).1, .int .i64 (numR (numR (numR s3).2).2).1, .int .i64 (numR (numR (numR (numR s3).2).2).2).1, .int .i64 (numR (numR (numR (numR (numR s3).2).2).2).2).1, .int .i64 (numR (numR (numR (numR (numR (numR s3).2).2).2).2).2).1] := And.left (And.right (And.right (And.right (And.right (And.right (And.right (And.right (And.right (And.right (And.right (And.right (And.right (And.right (And.right he))))))))))))))
                have d15 : LitAt wt.heap.size 64 #[.int .i64 (numR s3).1, .int .i64 (numR (numR s3).2).1, .int .i64 (numR (numR (numR s3).2).2).1, .int .i64 (numR (numR (numR (numR s3).2).2).2).1, .int .i64 (numR (numR (numR (numR (numR s3).2).2).2).2).1, .int .i64 (numR (numR (numR (numR (numR (numR s3).2).2).2).2).2).1] (x 15) u := And.left (And.right (And.right (And.right (And.right (And.right (And.right (And.right (And.right (And.right (And.right (And.right (And.right (And.right (And.right (And.right he)))))))))))))))
                have d17 : (x 17) = .pointer (some ⟨nf, 4, none⟩) := And.left (And.right (And.right (And.right (And.right (And.right (And.right (And.right (And.right (And.right (And.right (And.right (And.right (And.right (And.right (And.right (And.right (And.right he)))))))))))))))))
                clear he
                change ∃ A c, RcF W wN rb (.string (txtR s2).1) (.int .i64 (numR (txtR s2).2).1) (.int .i64 (numR (numR (txtR s2).2).2).1) (.int .i64 (numR (numR (numR (txtR s2).2).2).2).1) (numR (numR (numR (numR (numR (numR s3).2).2).2).2).2).2 (.slice A (is.length + 1) c) u ∧ Ix wN u (.slice A (is.length + 1) c) (is ++ [(insR s3).1]) at hg
                refine ⟨?_⟩
                simp only [putsFrom, Act.put, List.setIfInBounds_toArray, List.set_cons_zero, List.set_cons_succ, Nat.reduceAdd, d0, d1, d2, d3, d4, d5, d6, d7, d8, d9, d10, d11, d12, d13, d14, d17]
                clear d0 d1 d2 d3 d4 d5 d6 d7 d8 d9 d10 d11 d12 d13 d14 d17
                obtain ⟨A7, c7, hX7, hT7⟩ := hg
                have HX7 := hid hX7
                have HT7 := hid hT7
                clear hX7 hT7
                go_wp2
                exact ⟨⟨r3, (insR s3).2, is ++ [(insR s3).1], A7, c7, rfl, HNX3.out, by rw [List.length_append]; exact HX7.out, by rw [List.length_append]; exact HT7.out⟩, by rw [← HRR3.out]; simp only [intOf, Int.toNat_natCast]; omega⟩
              · have hor : r3 = 0 ∨ (0 < r3 ∧ s3.bad = true) := by
                  rcases Nat.eq_zero_or_pos r3 with h | h
                  · exact .inl h
                  · cases hq : s3.bad with
                    | false => exact absurd ⟨h, hq⟩ hgo
                    | true => exact .inr ⟨h, rfl⟩
                have HFL3 := hid (hrep3.1.fin (by rcases hor with h | h; exact .inl h; exact .inr h.2))
                have HFX := hid (HXN.out.1.read HK.out (s' := s3) HLE3.out HF3.out.rdr HF3.out.grown)
                have HTX := hid (HXN.out.2.read HK.out HF3.out.grown)
                have HOKF := hid (show okFnB ⟨(txtR s2).1, (numR (txtR s2).2).1, (numR (numR (txtR s2).2).2).1, (numR (numR (numR (txtR s2).2).2).2).1, is⟩ from ⟨txt_le (by have := HXF.out.le; omega), numR_okI _, numR_okI _, numR_okI _, by have := hrep3.1.2; have := HLL.out; show is.length * 48 ≤ _; omega⟩)
                have hfn : (fnR s2).1 = ⟨(txtR s2).1, (numR (txtR s2).2).1, (numR (numR (txtR s2).2).2).1, (numR (numR (numR (txtR s2).2).2).2).1, is⟩ ∧ (fnR s2).2 = s3 := by
                  unfold fnR
                  simp only
                  rw [HLN.out, Int.toNat_natCast, HFL3.out]
                  exact ⟨rfl, rfl⟩
                have HFN := hid hfn
                clear hfn hrep3 hx3 hix3 hrb3 hgo
                rcases hor with rfl | ⟨hr0, hbad⟩
                · go_upto_region 14 with fail
                  clear c1 clt
                  obtain ⟨xsf, l1, l2⟩ := HFX.out.fns
                  have HL1 := hid l1
                  have HL2 := hid l2
                  have hbx := HF3.out.box
                  rw [HNF.out] at hbx
                  have g0 := blk_cell (o := 0) (v := Value.string (txtR s2).1) hbx rfl
                  have g1 := blk_cell (o := 1) (v := Value.int .i64 (numR (txtR s2).2).1) hbx rfl
                  have g2 := blk_cell (o := 2) (v := Value.int .i64 (numR (numR (txtR s2).2).2).1) hbx rfl
                  have g3 := blk_cell (o := 3) (v := Value.int .i64 (numR (numR (numR (txtR s2).2).2).2).1) hbx rfl
                  have g4 := blk_cell (o := 4) (v := Value.slice Ai is.length ci) hbx rfl
                  have gl := blk_lt hbx
                  have d0 := blk_cell (o := 0) (v := Value.slice Af fs.length cf) HFX.out.box rfl
                  have dl := blk_lt HFX.out.box
                  have BW := hid (show w.heap.size ≤ wt.heap.size from HFX.out.grown.size)
                  clear l1 l2 hbx
                  go_wp2_with (at_builtin; refine app_lit elFn ?p0 (.tmp 82) (.tmp 84) ?p1 HL1.out ?p2 #[.string (txtR s2).1, .int .i64 (numR (txtR s2).2).1, .int .i64 (numR (numR (txtR s2).2).2).1, .int .i64 (numR (numR (numR (txtR s2).2).2).2).1, .slice Ai is.length ci] 45 1 1 ?p3 ?p4 ?p5 HB63.out HB64.out BW.out ?p8)
                  case p0 => rfl
                  case p1 => rfl
                  case p2 => rfl
                  case p3 => rfl
                  case p4 => rfl
                  case p5 => repeat' (first | exact rfl | refine ⟨?_, ?_⟩)
                  case p8 =>
                    intro v' w' G1 G2 _ _ G4
                    obtain ⟨A', c', rfl⟩ := own_form G1
                    have ht := Touch.of_grown HL1.out G2
                    have hbx2 : w'.heap[cb]? = some (.cells #[.slice Af fs.length cf, .slice At ts.length ct] 25 (0, 0)) := ht.2 _ _ HFX.out.box (fun cs fr e => by injection e with _ e _; exact absurd e (by decide))
                    have hins : OwnL CeIns 6 64 w' w.heap.size (.slice Ai is.length ci) is := OwnL.base_ (by have := HXN.out.1.grown.size; omega) (ownL_touch (w := wt) (base := wN.heap.size + 1) (e := 45) (by decide) (fun _ _ x => CeIns.any x) HI3.out ht)
                    have hrow := OwnL.snoc (a := ⟨(txtR s2).1, (numR (txtR s2).2).1, (numR (numR (txtR s2).2).2).1, (numR (numR (numR (txtR s2).2).2).2).1, is⟩) (n := fs.length + 1) rfl HL2.out (fun cs a h => h.touch (by decide) ht) ⟨.slice Ai is.length ci, rfl, hins, HOKF.out⟩ rfl G1
                    have HXE := hid (HFX.out.appF HK.out ht G4 hrow)
                    have HTE := hid (show Tx w (w'.setCell ⟨cb, 0, none⟩ (.slice A' (fs.length + 1) c')) (.slice At ts.length ct) ts from Tx.set1 (ownL_touch (by decide) (fun _ _ x => CeStr.any x) HTX.out ht) hbx2 0 _)
                    have e0 := blk_cell (o := 0) (v := Value.slice Af fs.length cf) hbx2 rfl
                    have e1 := blk_free (o := 0) hbx2
                    clear G1 G2 G4 ht hbx2 hrow hins d0 dl g0 g1 g2 g3 g4 gl
                    go_wp2
                    have hn := HNX.out
                    rw [HFN.out.1, HFN.out.2] at hn
                    exact ⟨⟨r, s3, _, A', c', rfl, hn, by rw [List.length_append]; exact HXE.out, HTE.out⟩, by rw [← HRR.out]; simp only [intOf, Int.toNat_natCast]; omega⟩
                · rw [hbad] at c1
                  have i1 : (0 : Int) < (r3 : Int) := by omega
                  clear hr0 hbad
                  go_upto_region 14 with fail
                  clear c1 clt i1
                  obtain ⟨xsf, l1, l2⟩ := HFX.out.fns
                  have HL1 := hid l1
                  have HL2 := hid l2
                  have hbx := HF3.out.box
                  rw [HNF.out] at hbx
                  have g0 := blk_cell (o := 0) (v := Value.string (txtR s2).1) hbx rfl
                  have g1 := blk_cell (o := 1) (v := Value.int .i64 (numR (txtR s2).2).1) hbx rfl
                  have g2 := blk_cell (o := 2) (v := Value.int .i64 (numR (numR (txtR s2).2).2).1) hbx rfl
                  have g3 := blk_cell (o := 3) (v := Value.int .i64 (numR (numR (numR (txtR s2).2).2).2).1) hbx rfl
                  have g4 := blk_cell (o := 4) (v := Value.slice Ai is.length ci) hbx rfl
                  have gl := blk_lt hbx
                  have d0 := blk_cell (o := 0) (v := Value.slice Af fs.length cf) HFX.out.box rfl
                  have dl := blk_lt HFX.out.box
                  have BW := hid (show w.heap.size ≤ wt.heap.size from HFX.out.grown.size)
                  clear l1 l2 hbx
                  go_wp2_with (at_builtin; refine app_lit elFn ?p0 (.tmp 82) (.tmp 84) ?p1 HL1.out ?p2 #[.string (txtR s2).1, .int .i64 (numR (txtR s2).2).1, .int .i64 (numR (numR (txtR s2).2).2).1, .int .i64 (numR (numR (numR (txtR s2).2).2).2).1, .slice Ai is.length ci] 45 1 1 ?p3 ?p4 ?p5 HB63.out HB64.out BW.out ?p8)
                  case p0 => rfl
                  case p1 => rfl
                  case p2 => rfl
                  case p3 => rfl
                  case p4 => rfl
                  case p5 => repeat' (first | exact rfl | refine ⟨?_, ?_⟩)
                  case p8 =>
                    intro v' w' G1 G2 _ _ G4
                    obtain ⟨A', c', rfl⟩ := own_form G1
                    have ht := Touch.of_grown HL1.out G2
                    have hbx2 : w'.heap[cb]? = some (.cells #[.slice Af fs.length cf, .slice At ts.length ct] 25 (0, 0)) := ht.2 _ _ HFX.out.box (fun cs fr e => by injection e with _ e _; exact absurd e (by decide))
                    have hins : OwnL CeIns 6 64 w' w.heap.size (.slice Ai is.length ci) is := OwnL.base_ (by have := HXN.out.1.grown.size; omega) (ownL_touch (w := wt) (base := wN.heap.size + 1) (e := 45) (by decide) (fun _ _ x => CeIns.any x) HI3.out ht)
                    have hrow := OwnL.snoc (a := ⟨(txtR s2).1, (numR (txtR s2).2).1, (numR (numR (txtR s2).2).2).1, (numR (numR (numR (txtR s2).2).2).2).1, is⟩) (n := fs.length + 1) rfl HL2.out (fun cs a h => h.touch (by decide) ht) ⟨.slice Ai is.length ci, rfl, hins, HOKF.out⟩ rfl G1
                    have HXE := hid (HFX.out.appF HK.out ht G4 hrow)
                    have HTE := hid (show Tx w (w'.setCell ⟨cb, 0, none⟩ (.slice A' (fs.length + 1) c')) (.slice At ts.length ct) ts from Tx.set1 (ownL_touch (by decide) (fun _ _ x => CeStr.any x) HTX.out ht) hbx2 0 _)
                    have e0 := blk_cell (o := 0) (v := Value.slice Af fs.length cf) hbx2 rfl
                    have e1 := blk_free (o := 0) hbx2
                    clear G1 G2 G4 ht hbx2 hrow hins d0 dl g0 g1 g2 g3 g4 gl
                    go_wp2
                    have hn := HNX.out
                    rw [HFN.out.1, HFN.out.2] at hn
                    exact ⟨⟨r, s3, _, A', c', rfl, hn, by rw [List.length_append]; exact HXE.out, HTE.out⟩, by rw [← HRR.out]; simp only [intOf, Int.toNat_natCast]; omega⟩
          · have hor : r = 0 ∨ (0 < r ∧ s2.bad = true) := by
              rcases Nat.eq_zero_or_pos r with h | h
              · exact .inl h
              · cases hq : s2.bad with
                | false => exact absurd ⟨h, hq⟩ hgo
                | true => exact .inr ⟨h, rfl⟩
            clear hx htx hrb2
            have HFIN2 := hid (hrep2.fin (by rcases hor with h | h; exact .inl h; exact .inr h.2))
            clear hrep2 hgo
            rcases hor with rfl | ⟨hr0, hbad⟩
            · have d0 := blk_cell (o := 0) (v := Value.slice Af fs.length cf) HXF.out.box rfl
              have d1 := blk_cell (o := 1) (v := Value.slice At ts.length ct) HXF.out.box rfl
              have dl := blk_lt HXF.out.box
              have hres := HXF.out.res
              rw [HN0.out] at hres
              have HRES := hid hres
              have r0 := blk_cell (o := 0) (v := Value.slice none 0 0) hres rfl
              have r1 := blk_cell (o := 1) (v := Value.slice none 0 0) hres rfl
              have rf0 := blk_free (o := 0) hres
              have rf1 := blk_free (o := 1) hres
              have rl := blk_lt hres
              clear hres
              go_wp2
              have hwl : w.heap.size ≤ n0 := by rw [HN0.out]; exact Nat.le_refl _
              have b0 : BoxAt wf n0 0 := BoxAt.mk_ (blk_cell (o := 0) (v := Value.slice none 0 0) HRES.out rfl) (blk_free HRES.out)
              have b1 : BoxAt wf n0 1 := BoxAt.mk_ (blk_cell (o := 1) (v := Value.slice none 0 0) HRES.out rfl) (blk_free HRES.out)
              obtain ⟨z0, z1⟩ := set2_cells b0 b1 (.slice Af fs.length cf) (.slice At ts.length ct)
              refine bodyPost_ret (v := .agg #[.slice Af fs.length cf, .slice At ts.length ct]) (by simp [results, Try.results29, go_sem, z0, z1]) rfl ?_
              have hc : codeR s = (⟨fs, ts⟩, s2) := by
                unfold codeR
                simp only
                rw [HN.out, Int.toNat_natCast, HFIN.out]
                simp only
                rw [HM.out, Int.toNat_natCast, HFIN2.out]
              rw [hc]
              exact code_end HXF.out HTF.out HN0.out HK.out HBDS.out.1 HBDS.out.2
            · rw [hbad] at c1
              have i1 : (0 : Int) < (r : Int) := by omega
              clear hr0 hbad
              have d0 := blk_cell (o := 0) (v := Value.slice Af fs.length cf) HXF.out.box rfl
              have d1 := blk_cell (o := 1) (v := Value.slice At ts.length ct) HXF.out.box rfl
              have dl := blk_lt HXF.out.box
              have hres := HXF.out.res
              rw [HN0.out] at hres
              have HRES := hid hres
              have r0 := blk_cell (o := 0) (v := Value.slice none 0 0) hres rfl
              have r1 := blk_cell (o := 1) (v := Value.slice none 0 0) hres rfl
              have rf0 := blk_free (o := 0) hres
              have rf1 := blk_free (o := 1) hres
              have rl := blk_lt hres
              clear hres
              go_wp2
              have hwl : w.heap.size ≤ n0 := by rw [HN0.out]; exact Nat.le_refl _
              have b0 : BoxAt wf n0 0 := BoxAt.mk_ (blk_cell (o := 0) (v := Value.slice none 0 0) HRES.out rfl) (blk_free HRES.out)
              have b1 : BoxAt wf n0 1 := BoxAt.mk_ (blk_cell (o := 1) (v := Value.slice none 0 0) HRES.out rfl) (blk_free HRES.out)
              obtain ⟨z0, z1⟩ := set2_cells b0 b1 (.slice Af fs.length cf) (.slice At ts.length ct)
              refine bodyPost_ret (v := .agg #[.slice Af fs.length cf, .slice At ts.length ct]) (by simp [results, Try.results29, go_sem, z0, z1]) rfl ?_
              have hc : codeR s = (⟨fs, ts⟩, s2) := by
                unfold codeR
                simp only
                rw [HN.out, Int.toNat_natCast, HFIN.out]
                simp only
                rw [HM.out, Int.toNat_natCast, HFIN2.out]
              rw [hc]
              exact code_end HXF.out HTF.out HN0.out HK.out HBDS.out.1 HBDS.out.2
end Go.Proofs.Ytgonekmmbeedeaa
