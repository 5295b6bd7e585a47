/-
  Parts of the proof of a law: DfW, DfQ, DfR, DfE. No condition.
-/
import Derived.Test.YtcjgagmcnmmfoaaPk7
import Derived.Test.YtcjgagmcnmmfoaaPk10
set_option maxRecDepth 20000
set_option maxHeartbeats 16000000
set_option linter.unusedVariables false
set_option linter.unusedSimpArgs false
namespace Go.Proofs.Ytcjgagmcnmmfoaa.Pa
open Go.RowKit

def OwnN (w : World) (base : Nat) (v : Value) (l : List Nat) : Prop := w.ownsRow base 3 1 v l.length (l.map fun q : Nat => Value.int .i64 (q : Int))
theorem OwnN.nil (w : World) (base : Nat) : OwnN w base (.slice none 0 0) [] := World.ownsRow_nil _ _ _ _
theorem OwnN.kp {w w' : World} {base : Nat} {v : Value} {l : List Nat} (h : OwnN w base v l) (hk : Kp w w') : OwnN w' base v l := ownsRow_keep h hk
def natI (l : List Nat) : List Int := l.map fun q : Nat => (q : Int)
theorem OwnN.rd {w : World} {base : Nat} {v : Value} {l : List Nat} (h : OwnN w base v l) (hl : l.length ≤ 1000000) (hr : ∀ x ∈ l, x ≤ 1000000) : RdInts w v (natI l) := by
 refine OwnI.rd (base := base) ?_ (by simp [natI]; omega) ?_
 ·unfold OwnI natI
  rw [List.length_map, List.map_map]
  exact h
 ·intro x hx
  simp only [natI, List.mem_map] at hx
  obtain ⟨q, hq, rfl⟩ := hx
  have := hr q hq
  exact ⟨by omega, by omega⟩
theorem ownF_app : ∀ (b : Nat) (l m : List T), ownF b (l ++ m) = ownF b l ++ ownF (b + sizeL l) m
 | b, [], m => by simp [ownF, sizeL]
 | b, t :: r, m => by simp [ownF, sizeL, ownF_app _ r m, Nat.add_assoc]
theorem lpF_app : ∀ (inl : Bool) (l m : List T), lpF inl (l ++ m) = (lpF inl l || lpF inl m)
 | inl, [], m => by simp [lpF]
 | inl, t :: r, m => by simp [lpF, lpF_app inl r m, Bool.or_assoc]
theorem own_take {b i : Nat} {ks : List T} {t : T} (h : ks[i]? = some t) : ownF b (ks.take (i + 1)) = ownF b (ks.take i) ++ ownD (b + sizeL (ks.take i)) t := by
 have e : ks.take (i + 1) = ks.take i ++ [t] := by rw [List.take_add_one, h]; rfl
 rw [e, ownF_app]; simp [ownF]
theorem lp_take {inl : Bool} {i : Nat} {ks : List T} {t : T} (h : ks[i]? = some t) : lpF inl (ks.take (i + 1)) = (lpF inl (ks.take i) || lpD inl t) := by
 have e : ks.take (i + 1) = ks.take i ++ [t] := by rw [List.take_add_one, h]; rfl
 rw [e, lpF_app]; simp [lpF]
mutual
theorem own_len : ∀ (b : Nat) (t : T), (ownD b t).length ≤ sizeT t
 | b, .node k _ _ _ ks => by
  have := own_lenF b ks
  rw [ownD]
  split
  ·simp
  ·simp only [sizeT, List.length_append]
   split <;> simp <;> omega
theorem own_lenF : ∀ (b : Nat) (l : List T), (ownF b l).length ≤ sizeL l
 | b, [] => by simp [ownF]
 | b, t :: r => by
  have h1 := own_len b t
  have h2 := own_lenF (b + sizeT t) r
  simp only [ownF, sizeL, List.length_append]; omega
end
theorem size_upto {ks : List T} {i : Nat} {t : T} (h : ks[i]? = some t) : sizeL (ks.take i) + sizeT t ≤ sizeL ks := by
 have e := congrArg sizeL (split_at h)
 rw [sizeL_app] at e
 simp only [sizeL] at e
 omega
structure FdS (w0 : World) (fp : Nat) (v : Value) (S : List Nat) (lp : Bool) (w : World) : Prop where
 kp : Kp w0 w
 fg : w0.heap.size ≤ fp
 ex : ∃ sv, w.heap[fp]? = some (.cells #[v, sv, .bool lp] 64 (0, 0)) ∧ OwnN w w0.heap.size sv S
structure FdK (fp : Nat) (u u' : World) : Prop where
 size : u.heap.size ≤ u'.heap.size
 keep : ∀ (k : Nat) (cs : Array Value) (T : TypeId) (fr : Nat × Nat), u.heap[k]? = some (.cells cs T fr) → T ≠ 3 → k ≠ fp → u'.heap[k]? = some (.cells cs T fr)
theorem FdK.refl (fp : Nat) (u : World) : FdK fp u u := ⟨Nat.le_refl _, fun _ _ _ _ h _ _ => h⟩
theorem FdK.trans {fp : Nat} {a b c : World} (h : FdK fp a b) (k : FdK fp b c) : FdK fp a c := ⟨Nat.le_trans h.size k.size, fun j cs T fr hj hT hne => k.keep j cs T fr (h.keep j cs T fr hj hT hne) hT hne⟩
theorem FdK.of_kp {fp : Nat} {a b : World} (h : Kp a b) : FdK fp a b := ⟨h.le, fun j cs T fr hj _ _ => (h.block j (blk_lt hj)).trans hj⟩
theorem FdK.set {fp o : Nat} (a : World) (v : Value) : FdK fp a (a.setCell ⟨fp, o, none⟩ v) := ⟨Nat.le_of_eq (by simp [World.setCell]), fun j cs T fr hj _ hne => (blk_far (p := ⟨fp, o, none⟩) hne v).trans hj⟩
theorem FdK.of_touch {fp : Nat} {a b : World} (h : Touch 3 a b) (hs : a.heap.size ≤ b.heap.size) : FdK fp a b := ⟨hs, fun j cs T fr hj hT _ => h.2 j _ hj (by intro c f e; injection e with _ e2; exact hT e2)⟩
section
variable {w0 w w' : World} {fp : Nat} {v : Value} {S : List Nat} {lp : Bool}
theorem FdS.keep (h : FdS w0 fp v S lp w) (hk : Kp w w') : FdS w0 fp v S lp w' := by
 obtain ⟨sv, h1, h2⟩ := h.ex
 exact ⟨h.kp.trans hk, h.fg, sv, (hk.block _ (blk_lt h1)).trans h1, h2.kp hk⟩
theorem FdS.lt (h : FdS w0 fp v S lp w) : fp < w.heap.size := by obtain ⟨_, h1, _⟩ := h.ex; exact blk_lt h1
theorem FdS.app (h : FdS w0 fp v S lp w) {sv v6 : Value} {r : Nat} (hb : w.heap[fp]? = some (.cells #[v, sv, .bool lp] 64 (0, 0))) (hx : w.ownsRow w0.heap.size 3 1 sv S.length (S.map fun q : Nat => Value.int .i64 (q : Int)))
  (ho : w'.ownsRow w0.heap.size 3 1 v6 (S.length + 1) ((S.map fun q : Nat => Value.int .i64 (q : Int)) ++ [.int .i64 (r : Int)])) (hg : w.grownBy w' sv.ownBlock) :
  FdS w0 fp v (S ++ [r]) lp (w'.setCell ⟨fp, 1, none⟩ v6) ∧ FdK fp w (w'.setCell ⟨fp, 1, none⟩ v6) ∧ w'.heap[fp]? = some (.cells #[v, sv, .bool lp] 64 (0, 0)) := by
 have ht := Touch.of_grown hx hg
 have hb' := ht.2 _ _ hb (by intro c f e; injection e with _ e2; exact absurd e2 (by decide))
 have ht2 := rowTouch (o := 1) hb' v6
 have hbel : Below w0.heap.size w0 w' := Below.trans h.kp (own_below hx hg h.kp.le)
 refine ⟨⟨Kp.setCell (p := ⟨fp, 1, none⟩) hbel h.fg _, h.fg, v6, blk_set (o := 1) hb' v6, ?_⟩, (FdK.of_touch ht hg.size).trans (FdK.set _ _), hb'⟩
 have := ownsRow_touch (by decide) ho ht2
 unfold OwnN
 rw [List.length_append, List.length_singleton, List.map_append]
 exact this
theorem FdS.loop (h : FdS w0 fp v S lp w) (b : Bool) : FdS w0 fp v S b (w.setCell ⟨fp, 2, none⟩ (.bool b)) := by
 obtain ⟨sv, h1, h2⟩ := h.ex
 have ht := rowTouch (o := 2) h1 (.bool b)
 exact ⟨h.kp.setCell (p := ⟨fp, 2, none⟩) h.fg _, h.fg, sv, blk_set (o := 2) h1 _, ownsRow_touch (by decide) h2 ht⟩
end
def WalkC (w0 : World) (fp : Nat) (v : Value) (b : Nat) (t : T) : Prop := ∀ (u : World) (S : List Nat) (lp : Bool) (n : Nat), FdS w0 fp v S lp u → S.length + sizeT t ≤ 5000 → n + sizeT t ≤ 5000 → Calls Try.prog 24 #[.pointer (some ⟨fp, 0, none⟩), .int .i64 ((rootT b t : Nat) : Int), .int .i64 (n : Int)] u fun e u' => e = .returned (.tuple #[]) ∧ FdS w0 fp v (S ++ ownD b t) (lp || lpD (decide (0 < n)) t) u' ∧ FdK fp u u'
structure WkS (L : List NodeM) (w0 : World) (v : Value) (b : Nat) (k n : Int) (s ty : ByteArray) (ks : List T) : Prop where
 tree : RdL CeNode 5 w0 v L
 len : L.length ≤ 4000
 root : L[b + sizeL ks]? = some ⟨k, s, ty, n, rootsL b ks⟩
theorem walk_fn33 {L : List NodeM} {w0 : World} {fp b : Nat} {v : Value} {k n : Int} {s ty : ByteArray} {ks : List T} (hk : k = 33) (H : WkS L w0 v b k n s ty ks) (hkid : ∀ (i : Nat) (t : T), ks[i]? = some t → WalkC w0 fp v (b + sizeL (ks.take i)) t) : WalkC w0 fp v b (.node k s ty n ks) := by
 intro u S lp nl h hS hn
 have HN := hid H; have HKI := hid hkid
 have HS := hid h
 obtain ⟨A, c, rfl, _⟩ := H.tree.form
 obtain ⟨bt, off, rfl, hbt, lk, g0, g1, g2, g3, g4, o0, o1, o2, o3, rk0, _⟩ := at_node H.tree H.root
 have g0 := cell_kp h.kp hbt g0
 have g1 := cell_kp h.kp hbt g1
 have g2 := cell_kp h.kp hbt g2
 have g3 := cell_kp h.kp hbt g3
 have g4 := cell_kp h.kp hbt g4
 obtain ⟨Ak, ck, hlk⟩ := rk0.form
 rw [rootsL_len] at hlk
 subst hlk
 have HRK := hid rk0
 have hlen : ks.length ≤ 4000 := by
  have h1 := (List.getElem?_eq_some_iff.1 H.root).1
  have h2 := sizeL_ge ks
  have h3 := H.len
  omega
 have HLK := hid hlen
 have i1 : (((b + sizeL ks : Nat)) : Int) < (L.length : Int) := by have := (List.getElem?_eq_some_iff.1 H.root).1; omega
 obtain ⟨sv, q, _⟩ := h.ex
 have q0 := blk_cell (o := 0) q rfl
 have a33 : (k == 33) = true := by rw [hk]; rfl
 have a2 : (k == 2) = false := by rw [hk]; rfl
 have HF := hid (show isFn k by rw [hk]; decide)
 clear hk
 dsimp only at g0 g1 g2 g3 g4
 show Calls _ _ #[_, .int .i64 ((b + sizeL ks : Nat) : Int), _] _ _
 have HSZ := hid hS; have HNL := hid hn
 clear rk0 H h hkid o0 o1 o2 o3 hlen q hS hn
 obtain ⟨r, hr⟩ : ∃ r, b + sizeL ks = r := ⟨_, rfl⟩
 have HR := hid hr
 rw [hr] at i1 g0 g1 g2 g3 g4 ⊢
 clear hr
 go_enter Try.func24, Try.ntmps24
 go_upto_region 1 with fail
 have hnp := blk_new u (.cells #[.int .i64 k, .string s, .string ty, .int .i64 n, .slice Ak ks.length ck] 37)
 have hku := (Kp.refl u).alloc (.cells #[.int .i64 k, .string s, .string ty, .int .i64 n, .slice Ak ks.length ck] 37)
 have HS1 := hid (HS.out.keep hku)
 have HG0 := hid (FdK.of_kp (fp := fp) hku)
 have hnf : u.heap.size ≠ fp := Nat.ne_of_gt HS.out.lt
 generalize u.alloc _ = W at hnp HS1 HG0 ⊢
 generalize u.heap.size = np at hnp hnf ⊢
 have n0 := blk_cell (o := 0) hnp rfl
 have n4 := blk_cell (o := 4) hnp rfl
 have HNP := hid hnp
 have HNF := hid hnf
 clear g0 g1 g2 g3 g4 q0 i1 hnp hku hnf
 go_wp2
 first | go_end0 | refine bodyPost_ret (results_none rfl _ _ _) rfl ?_
 refine ⟨rfl, ?_, HG0.out⟩
 rw [ownD, if_pos HF.out, lpD, if_pos HF.out, List.append_nil, Bool.or_false]
 exact HS1.out
theorem walk_fn2 {L : List NodeM} {w0 : World} {fp b : Nat} {v : Value} {k n : Int} {s ty : ByteArray} {ks : List T} (hk : k = 2) (H : WkS L w0 v b k n s ty ks) (hkid : ∀ (i : Nat) (t : T), ks[i]? = some t → WalkC w0 fp v (b + sizeL (ks.take i)) t) : WalkC w0 fp v b (.node k s ty n ks) := by
 intro u S lp nl h hS hn
 have HN := hid H; have HKI := hid hkid
 have HS := hid h
 obtain ⟨A, c, rfl, _⟩ := H.tree.form
 obtain ⟨bt, off, rfl, hbt, lk, g0, g1, g2, g3, g4, o0, o1, o2, o3, rk0, _⟩ := at_node H.tree H.root
 have g0 := cell_kp h.kp hbt g0
 have g1 := cell_kp h.kp hbt g1
 have g2 := cell_kp h.kp hbt g2
 have g3 := cell_kp h.kp hbt g3
 have g4 := cell_kp h.kp hbt g4
 obtain ⟨Ak, ck, hlk⟩ := rk0.form
 rw [rootsL_len] at hlk
 subst hlk
 have HRK := hid rk0
 have hlen : ks.length ≤ 4000 := by
  have h1 := (List.getElem?_eq_some_iff.1 H.root).1
  have h2 := sizeL_ge ks
  have h3 := H.len
  omega
 have HLK := hid hlen
 have i1 : (((b + sizeL ks : Nat)) : Int) < (L.length : Int) := by have := (List.getElem?_eq_some_iff.1 H.root).1; omega
 obtain ⟨sv, q, _⟩ := h.ex
 have q0 := blk_cell (o := 0) q rfl
 have a33 : (k == 33) = false := by rw [hk]; rfl
 have a2 : (k == 2) = true := by rw [hk]; rfl
 have HF := hid (show isFn k by rw [hk]; decide)
 clear hk
 dsimp only at g0 g1 g2 g3 g4
 show Calls _ _ #[_, .int .i64 ((b + sizeL ks : Nat) : Int), _] _ _
 have HSZ := hid hS; have HNL := hid hn
 clear rk0 H h hkid o0 o1 o2 o3 hlen q hS hn
 obtain ⟨r, hr⟩ : ∃ r, b + sizeL ks = r := ⟨_, rfl⟩
 have HR := hid hr
 rw [hr] at i1 g0 g1 g2 g3 g4 ⊢
 clear hr
 go_enter Try.func24, Try.ntmps24
 go_upto_region 1 with fail
 have hnp := blk_new u (.cells #[.int .i64 k, .string s, .string ty, .int .i64 n, .slice Ak ks.length ck] 37)
 have hku := (Kp.refl u).alloc (.cells #[.int .i64 k, .string s, .string ty, .int .i64 n, .slice Ak ks.length ck] 37)
 have HS1 := hid (HS.out.keep hku)
 have HG0 := hid (FdK.of_kp (fp := fp) hku)
 have hnf : u.heap.size ≠ fp := Nat.ne_of_gt HS.out.lt
 generalize u.alloc _ = W at hnp HS1 HG0 ⊢
 generalize u.heap.size = np at hnp hnf ⊢
 have n0 := blk_cell (o := 0) hnp rfl
 have n4 := blk_cell (o := 4) hnp rfl
 have HNP := hid hnp
 have HNF := hid hnf
 clear g0 g1 g2 g3 g4 q0 i1 hnp hku hnf
 go_wp2
 first | go_end0 | refine bodyPost_ret (results_none rfl _ _ _) rfl ?_
 refine ⟨rfl, ?_, HG0.out⟩
 rw [ownD, if_pos HF.out, lpD, if_pos HF.out, List.append_nil, Bool.or_false]
 exact HS1.out
theorem walk_loop {L : List NodeM} {w0 : World} {fp b : Nat} {v : Value} {k n : Int} {s ty : ByteArray} {ks : List T} (hk : k = 11) (H : WkS L w0 v b k n s ty ks) (hkid : ∀ (i : Nat) (t : T), ks[i]? = some t → WalkC w0 fp v (b + sizeL (ks.take i)) t) : WalkC w0 fp v b (.node k s ty n ks) := by
 intro u S lp nl h hS hn
 have HN := hid H; have HKI := hid hkid
 have HS := hid h
 obtain ⟨A, c, rfl, _⟩ := H.tree.form
 obtain ⟨bt, off, rfl, hbt, lk, g0, g1, g2, g3, g4, o0, o1, o2, o3, rk0, _⟩ := at_node H.tree H.root
 have g0 := cell_kp h.kp hbt g0
 have g1 := cell_kp h.kp hbt g1
 have g2 := cell_kp h.kp hbt g2
 have g3 := cell_kp h.kp hbt g3
 have g4 := cell_kp h.kp hbt g4
 obtain ⟨Ak, ck, hlk⟩ := rk0.form
 rw [rootsL_len] at hlk
 subst hlk
 have HRK := hid rk0
 have hlen : ks.length ≤ 4000 := by
  have h1 := (List.getElem?_eq_some_iff.1 H.root).1
  have h2 := sizeL_ge ks
  have h3 := H.len
  omega
 have HLK := hid hlen
 have i1 : (((b + sizeL ks : Nat)) : Int) < (L.length : Int) := by have := (List.getElem?_eq_some_iff.1 H.root).1; omega
 obtain ⟨sv, q, _⟩ := h.ex
 have q0 := blk_cell (o := 0) q rfl
 have a33 : (k == 33) = false := by rw [hk]; rfl
 have a2 : (k == 2) = false := by rw [hk]; rfl
 have a11 : (k == 11) = true := by rw [hk]; rfl
 have a15 : (k == 15) = false := by rw [hk]; rfl
 have HF := hid (show ¬ isFn k by rw [hk]; decide)
 have HK := hid hk
 clear hk
 dsimp only at g0 g1 g2 g3 g4
 show Calls _ _ #[_, .int .i64 ((b + sizeL ks : Nat) : Int), _] _ _
 have HSZ := hid hS; have HNL := hid hn
 clear rk0 H h hkid o0 o1 o2 o3 hlen q hS hn
 obtain ⟨r, hr⟩ : ∃ r, b + sizeL ks = r := ⟨_, rfl⟩
 have HR := hid hr
 rw [hr] at i1 g0 g1 g2 g3 g4 ⊢
 clear hr
 go_enter Try.func24, Try.ntmps24
 go_upto_region 1 with fail
 have hnp := blk_new u (.cells #[.int .i64 k, .string s, .string ty, .int .i64 n, .slice Ak ks.length ck] 37)
 have hku := (Kp.refl u).alloc (.cells #[.int .i64 k, .string s, .string ty, .int .i64 n, .slice Ak ks.length ck] 37)
 have HS1 := hid (HS.out.keep hku)
 have HG0 := hid (FdK.of_kp (fp := fp) hku)
 have hnf : u.heap.size ≠ fp := Nat.ne_of_gt HS.out.lt
 generalize u.alloc _ = W at hnp HS1 HG0 ⊢
 generalize u.heap.size = np at hnp hnf ⊢
 have n0 := blk_cell (o := 0) hnp rfl
 have n4 := blk_cell (o := 4) hnp rfl
 have HNP := hid hnp
 have HNF := hid hnf
 clear g0 g1 g2 g3 g4 q0 i1 hnp hku hnf
 obtain ⟨n2, hn2⟩ : ∃ n2, (nl + 1) = n2 := ⟨_, rfl⟩
 have k2 : IntKind.i64.wrap ((nl : Int) + 1) = ((n2 : Nat) : Int) := by rw [IntKind.wrap_i64]; have := HNL.out; omega
 have HN2 := hid hn2
 have HB2 := hid (show n2 + sizeL ks ≤ 5000 by have := HNL.out; simp only [sizeT] at this; omega)
 go_upto_region 6 with fail
 go_wp2_with fail
 go_loopw [28] (fun x wr => ∃ i : Nat, i ≤ ks.length ∧ x = .int .i64 (i : Int) ∧ FdS w0 fp (.slice (some ⟨bt, off, none⟩) L.length c) (S ++ ownF b (ks.take i)) (lp || lpF (decide (0 < n2)) (ks.take i)) wr ∧ FdK fp W wr) (fun x _ => ks.length - (intOf x).toNat)
 case atStart => exact ⟨0, Nat.zero_le _, rfl, by simpa [ownF, lpF] using HS1.out, FdK.refl _ _⟩
 case round =>
  obtain ⟨i, hi, rfl, hc, hgr⟩ := hrel
  have HC := hid hc; have HGR := hid hgr
  clear n0 n4
  by_cases hl : i < ks.length
  ·have i2 : (i : Int) < (ks.length : Int) := by omega
   obtain ⟨t, ht⟩ : ∃ t, ks[i]? = some t := ⟨_, List.getElem?_eq_getElem hl⟩
   obtain ⟨kb, ko, rfl, hkb, c2⟩ := ints_at (HRK.out.kp hc.kp) (roots_get ht)
   have HCALL := hid (HKI.out i t ht wr _ _ n2 hc (by have h1 := size_upto ht; have h2 := own_lenF b (ks.take i); have h3 := HSZ.out; simp only [sizeT] at h3; simp only [List.length_append]; omega) (by have := size_le ht; have := HB2.out; omega))
   have HT := hid ht
   have HL := hid hl
   have k1 : IntKind.i64.wrap ((i : Int) + 1) = ((i + 1 : Nat) : Int) := by rw [IntKind.wrap_i64]; have := HLK.out; omega
   obtain ⟨q, hq⟩ : ∃ q, rootT (b + sizeL (ks.take i)) t = q := ⟨_, rfl⟩
   rw [hq] at HCALL c2
   clear hc hgr hi hl ht hq
   go_wp2_with (go_at_call 24; go_must (refine HCALL.out.mono ?_); rintro e w3 ⟨rfl, hs3, hg3⟩)
   refine ⟨⟨i + 1, HL.out, rfl, ?_, HGR.out.trans hg3⟩, meas_up HL.out⟩
   rw [own_take HT.out, lp_take HT.out, ← List.append_assoc, ← Bool.or_assoc]
   exact hs3
  ·have i2 : ¬ (i : Int) < (ks.length : Int) := by omega
   obtain rfl : i = ks.length := by omega
   rw [List.take_length] at HC
   have hnp := HGR.out.keep np _ _ _ HNP.out (by decide) HNF.out
   have n0 := blk_cell (o := 0) hnp rfl
   clear hnp hi hl hc hgr
   go_wp2
   first | go_end0 | refine bodyPost_ret (results_none rfl _ _ _) rfl ?_
   refine ⟨rfl, ?_, HG0.out.trans HGR.out⟩
   rw [ownD, if_neg HF.out, lpD, if_neg HF.out]
   rw [HK.out, if_neg (by decide), List.append_nil, show ((decide (0 < nl) || (11 : Int) == 11) = decide (0 < n2)) by rw [← HN2.out]; simp, show ((11 : Int) == 15) = false from rfl, Bool.false_and, Bool.or_false]
   exact HC.out
theorem walk_plain {L : List NodeM} {w0 : World} {fp b : Nat} {v : Value} {k n : Int} {s ty : ByteArray} {ks : List T} (h33 : k ≠ 33) (h2 : k ≠ 2) (h11 : k ≠ 11) (h15 : k ≠ 15) (H : WkS L w0 v b k n s ty ks) (hkid : ∀ (i : Nat) (t : T), ks[i]? = some t → WalkC w0 fp v (b + sizeL (ks.take i)) t) : WalkC w0 fp v b (.node k s ty n ks) := by
 intro u S lp nl h hS hn
 have HN := hid H; have HKI := hid hkid
 have HS := hid h
 obtain ⟨A, c, rfl, _⟩ := H.tree.form
 obtain ⟨bt, off, rfl, hbt, lk, g0, g1, g2, g3, g4, o0, o1, o2, o3, rk0, _⟩ := at_node H.tree H.root
 have g0 := cell_kp h.kp hbt g0
 have g1 := cell_kp h.kp hbt g1
 have g2 := cell_kp h.kp hbt g2
 have g3 := cell_kp h.kp hbt g3
 have g4 := cell_kp h.kp hbt g4
 obtain ⟨Ak, ck, hlk⟩ := rk0.form
 rw [rootsL_len] at hlk
 subst hlk
 have HRK := hid rk0
 have hlen : ks.length ≤ 4000 := by
  have h1 := (List.getElem?_eq_some_iff.1 H.root).1
  have h2 := sizeL_ge ks
  have h3 := H.len
  omega
 have HLK := hid hlen
 have i1 : (((b + sizeL ks : Nat)) : Int) < (L.length : Int) := by have := (List.getElem?_eq_some_iff.1 H.root).1; omega
 obtain ⟨sv, q, _⟩ := h.ex
 have q0 := blk_cell (o := 0) q rfl
 have a33 : (k == 33) = false := beq_eq_false_iff_ne.2 h33
 have a2 : (k == 2) = false := beq_eq_false_iff_ne.2 h2
 have a11 : (k == 11) = false := beq_eq_false_iff_ne.2 h11
 have a15 : (k == 15) = false := beq_eq_false_iff_ne.2 h15
 have HF := hid (show ¬ isFn k by unfold isFn; omega)
 have HK := hid (And.intro h15 (And.intro a11 a15))
 clear h33 h2 h11 h15
 dsimp only at g0 g1 g2 g3 g4
 show Calls _ _ #[_, .int .i64 ((b + sizeL ks : Nat) : Int), _] _ _
 have HSZ := hid hS; have HNL := hid hn
 clear rk0 H h hkid o0 o1 o2 o3 hlen q hS hn
 obtain ⟨r, hr⟩ : ∃ r, b + sizeL ks = r := ⟨_, rfl⟩
 have HR := hid hr
 rw [hr] at i1 g0 g1 g2 g3 g4 ⊢
 clear hr
 go_enter Try.func24, Try.ntmps24
 go_upto_region 1 with fail
 have hnp := blk_new u (.cells #[.int .i64 k, .string s, .string ty, .int .i64 n, .slice Ak ks.length ck] 37)
 have hku := (Kp.refl u).alloc (.cells #[.int .i64 k, .string s, .string ty, .int .i64 n, .slice Ak ks.length ck] 37)
 have HS1 := hid (HS.out.keep hku)
 have HG0 := hid (FdK.of_kp (fp := fp) hku)
 have hnf : u.heap.size ≠ fp := Nat.ne_of_gt HS.out.lt
 generalize u.alloc _ = W at hnp HS1 HG0 ⊢
 generalize u.heap.size = np at hnp hnf ⊢
 have n0 := blk_cell (o := 0) hnp rfl
 have n4 := blk_cell (o := 4) hnp rfl
 have HNP := hid hnp
 have HNF := hid hnf
 clear g0 g1 g2 g3 g4 q0 i1 hnp hku hnf
 have HB2 := hid (show nl + sizeL ks ≤ 5000 by have := HNL.out; simp only [sizeT] at this; omega)
 go_upto_region 6 with fail
 go_wp2_with fail
 go_loopw [28] (fun x wr => ∃ i : Nat, i ≤ ks.length ∧ x = .int .i64 (i : Int) ∧ FdS w0 fp (.slice (some ⟨bt, off, none⟩) L.length c) (S ++ ownF b (ks.take i)) (lp || lpF (decide (0 < nl)) (ks.take i)) wr ∧ FdK fp W wr) (fun x _ => ks.length - (intOf x).toNat)
 case atStart => exact ⟨0, Nat.zero_le _, rfl, by simpa [ownF, lpF] using HS1.out, FdK.refl _ _⟩
 case round =>
  obtain ⟨i, hi, rfl, hc, hgr⟩ := hrel
  have HC := hid hc; have HGR := hid hgr
  clear n0 n4
  by_cases hl : i < ks.length
  ·have i2 : (i : Int) < (ks.length : Int) := by omega
   obtain ⟨t, ht⟩ : ∃ t, ks[i]? = some t := ⟨_, List.getElem?_eq_getElem hl⟩
   obtain ⟨kb, ko, rfl, hkb, c2⟩ := ints_at (HRK.out.kp hc.kp) (roots_get ht)
   have HCALL := hid (HKI.out i t ht wr _ _ nl hc (by have h1 := size_upto ht; have h2 := own_lenF b (ks.take i); have h3 := HSZ.out; simp only [sizeT] at h3; simp only [List.length_append]; omega) (by have := size_le ht; have := HB2.out; omega))
   have HT := hid ht
   have HL := hid hl
   have k1 : IntKind.i64.wrap ((i : Int) + 1) = ((i + 1 : Nat) : Int) := by rw [IntKind.wrap_i64]; have := HLK.out; omega
   obtain ⟨q, hq⟩ : ∃ q, rootT (b + sizeL (ks.take i)) t = q := ⟨_, rfl⟩
   rw [hq] at HCALL c2
   clear hc hgr hi hl ht hq
   go_wp2_with (go_at_call 24; go_must (refine HCALL.out.mono ?_); rintro e w3 ⟨rfl, hs3, hg3⟩)
   refine ⟨⟨i + 1, HL.out, rfl, ?_, HGR.out.trans hg3⟩, meas_up HL.out⟩
   rw [own_take HT.out, lp_take HT.out, ← List.append_assoc, ← Bool.or_assoc]
   exact hs3
  ·have i2 : ¬ (i : Int) < (ks.length : Int) := by omega
   obtain rfl : i = ks.length := by omega
   rw [List.take_length] at HC
   have hnp := HGR.out.keep np _ _ _ HNP.out (by decide) HNF.out
   have n0 := blk_cell (o := 0) hnp rfl
   clear hnp hi hl hc hgr
   go_wp2
   first | go_end0 | refine bodyPost_ret (results_none rfl _ _ _) rfl ?_
   refine ⟨rfl, ?_, HG0.out.trans HGR.out⟩
   rw [ownD, if_neg HF.out, lpD, if_neg HF.out]
   rw [if_neg HK.out.1, List.append_nil, HK.out.2.1, HK.out.2.2, Bool.or_false, Bool.false_and, Bool.or_false]
   exact HC.out
theorem walk_def {L : List NodeM} {w0 : World} {fp b : Nat} {v : Value} {k n : Int} {s ty : ByteArray} {ks : List T} (hk : k = 15) (H : WkS L w0 v b k n s ty ks) (hkid : ∀ (i : Nat) (t : T), ks[i]? = some t → WalkC w0 fp v (b + sizeL (ks.take i)) t) : WalkC w0 fp v b (.node k s ty n ks) := by
 intro u S lp nl h hS hn
 have HN := hid H; have HKI := hid hkid
 have HS := hid h
 obtain ⟨A, c, rfl, _⟩ := H.tree.form
 obtain ⟨bt, off, rfl, hbt, lk, g0, g1, g2, g3, g4, o0, o1, o2, o3, rk0, _⟩ := at_node H.tree H.root
 have g0 := cell_kp h.kp hbt g0
 have g1 := cell_kp h.kp hbt g1
 have g2 := cell_kp h.kp hbt g2
 have g3 := cell_kp h.kp hbt g3
 have g4 := cell_kp h.kp hbt g4
 obtain ⟨Ak, ck, hlk⟩ := rk0.form
 rw [rootsL_len] at hlk
 subst hlk
 have HRK := hid rk0
 have hlen : ks.length ≤ 4000 := by
  have h1 := (List.getElem?_eq_some_iff.1 H.root).1
  have h2 := sizeL_ge ks
  have h3 := H.len
  omega
 have HLK := hid hlen
 have i1 : (((b + sizeL ks : Nat)) : Int) < (L.length : Int) := by have := (List.getElem?_eq_some_iff.1 H.root).1; omega
 obtain ⟨sv, q, _⟩ := h.ex
 have q0 := blk_cell (o := 0) q rfl
 have a33 : (k == 33) = false := by rw [hk]; rfl
 have a2 : (k == 2) = false := by rw [hk]; rfl
 have a11 : (k == 11) = false := by rw [hk]; rfl
 have a15 : (k == 15) = true := by rw [hk]; rfl
 have HF := hid (show ¬ isFn k by rw [hk]; decide)
 have H15 := hid (And.intro hk (And.intro a11 a15))
 clear hk
 dsimp only at g0 g1 g2 g3 g4
 show Calls _ _ #[_, .int .i64 ((b + sizeL ks : Nat) : Int), _] _ _
 have HSZ := hid hS; have HNL := hid hn
 clear rk0 H h hkid o0 o1 o2 o3 hlen q hS hn
 obtain ⟨r, hr⟩ : ∃ r, b + sizeL ks = r := ⟨_, rfl⟩
 have HR := hid hr
 rw [hr] at i1 g0 g1 g2 g3 g4 ⊢
 clear hr
 go_enter Try.func24, Try.ntmps24
 go_upto_region 1 with fail
 have hnp := blk_new u (.cells #[.int .i64 k, .string s, .string ty, .int .i64 n, .slice Ak ks.length ck] 37)
 have hku := (Kp.refl u).alloc (.cells #[.int .i64 k, .string s, .string ty, .int .i64 n, .slice Ak ks.length ck] 37)
 have HS1 := hid (HS.out.keep hku)
 have HG0 := hid (FdK.of_kp (fp := fp) hku)
 have hnf : u.heap.size ≠ fp := Nat.ne_of_gt HS.out.lt
 generalize u.alloc _ = W at hnp HS1 HG0 ⊢
 generalize u.heap.size = np at hnp hnf ⊢
 have n0 := blk_cell (o := 0) hnp rfl
 have n4 := blk_cell (o := 4) hnp rfl
 have HNP := hid hnp
 have HNF := hid hnf
 clear g0 g1 g2 g3 g4 q0 i1 hnp hku hnf
 have HB2 := hid (show nl + sizeL ks ≤ 5000 by have := HNL.out; simp only [sizeT] at this; omega)
 go_upto_region 6 with fail
 go_wp2_with fail
 go_loopw [28] (fun x wr => ∃ i : Nat, i ≤ ks.length ∧ x = .int .i64 (i : Int) ∧ FdS w0 fp (.slice (some ⟨bt, off, none⟩) L.length c) (S ++ ownF b (ks.take i)) (lp || lpF (decide (0 < nl)) (ks.take i)) wr ∧ FdK fp W wr) (fun x _ => ks.length - (intOf x).toNat)
 case atStart => exact ⟨0, Nat.zero_le _, rfl, by simpa [ownF, lpF] using HS1.out, FdK.refl _ _⟩
 case round =>
  obtain ⟨i, hi, rfl, hc, hgr⟩ := hrel
  have HC := hid hc; have HGR := hid hgr
  clear n0 n4
  by_cases hl : i < ks.length
  ·have i2 : (i : Int) < (ks.length : Int) := by omega
   obtain ⟨t, ht⟩ : ∃ t, ks[i]? = some t := ⟨_, List.getElem?_eq_getElem hl⟩
   obtain ⟨kb, ko, rfl, hkb, c2⟩ := ints_at (HRK.out.kp hc.kp) (roots_get ht)
   have HCALL := hid (HKI.out i t ht wr _ _ nl hc (by have h1 := size_upto ht; have h2 := own_lenF b (ks.take i); have h3 := HSZ.out; simp only [sizeT] at h3; simp only [List.length_append]; omega) (by have := size_le ht; have := HB2.out; omega))
   have HT := hid ht
   have HL := hid hl
   have k1 : IntKind.i64.wrap ((i : Int) + 1) = ((i + 1 : Nat) : Int) := by rw [IntKind.wrap_i64]; have := HLK.out; omega
   obtain ⟨q, hq⟩ : ∃ q, rootT (b + sizeL (ks.take i)) t = q := ⟨_, rfl⟩
   rw [hq] at HCALL c2
   clear hc hgr hi hl ht hq
   go_wp2_with (go_at_call 24; go_must (refine HCALL.out.mono ?_); rintro e w3 ⟨rfl, hs3, hg3⟩)
   refine ⟨⟨i + 1, HL.out, rfl, ?_, HGR.out.trans hg3⟩, meas_up HL.out⟩
   rw [own_take HT.out, lp_take HT.out, ← List.append_assoc, ← Bool.or_assoc]
   exact hs3
  ·have i2 : ¬ (i : Int) < (ks.length : Int) := by omega
   obtain rfl : i = ks.length := by omega
   rw [List.take_length] at HC
   have hnp := HGR.out.keep np _ _ _ HNP.out (by decide) HNF.out
   have n0 := blk_cell (o := 0) hnp rfl
   clear hnp hi hl hc hgr
   obtain ⟨sv2, hbx, hrow⟩ := HC.out.ex
   have q1 := blk_cell (o := 1) hbx rfl
   have qf := blk_free (o := 1) hbx
   have HBX := hid hbx; have HRW := hid hrow
   have hxl : (S ++ ownF b ks).length + 1 ≤ maxLen ∧ ((S ++ ownF b ks).length + 1) * 8 ≤ 140737488355328 := by have h1 := own_lenF b ks; have h2 := HSZ.out; simp only [sizeT] at h2; simp only [List.length_append]; unfold maxLen; omega
   have HXL := hid hxl
   have HGE := hid HC.out.kp.le
   obtain ⟨A3, c3, rfl⟩ := own_form hrow
   generalize hM : S ++ ownF b ks = M at HC HRW HXL q1 hbx hrow HBX
   have HM := hid hM
   clear hbx hrow hxl hM
   go_upto_region 13 with (at_builtin; go_must (refine app_lit_at wr.heap.size ?r0 elInt ?r1 (.tmp 44) (.tmp 46) ?r2 (base := w0.heap.size) HRW.out ?r3 #[.int .i64 (r : Int)] 3 1 1 ?r4 ?r5 ?r6 ?r7 ?r8 HGE.out ?r9))
   try (case r0 => rfl)
   try (case r1 => rfl)
   try (case r2 => rfl)
   try (case r3 => rfl)
   try (case r4 => rfl)
   try (case r5 => rfl)
   case r6 => first | rfl | exact ⟨rfl, rfl⟩ | (intro u hu; simp at hu; subst hu; rfl)
   case r7 => exact HXL.out.1
   case r8 => exact HXL.out.2
   case r9 =>
    intro v6 w6 o6 g6 m6 b6
    obtain ⟨hs6, hk6, hb6⟩ := HC.out.app HBX.out HRW.out o6 g6
    have q0 := blk_cell (o := 0) hb6 rfl
    have q1 := blk_cell (o := 1) hb6 rfl
    have qf := blk_free (o := 1) hb6
    have HS6 := hid hs6; have HK6 := hid hk6
    obtain ⟨A6, c6, rfl⟩ := own_form o6
    clear hs6 hk6 hb6 o6 g6 m6 b6 HRW HBX HGE HXL
    go_upto_region 13 with fail
    generalize World.setCell _ _ _ = W7 at HS6 HK6 ⊢
    obtain ⟨sv7, hbx7, _⟩ := HS6.out.ex
    have q2 := blk_cell (o := 2) hbx7 rfl
    have qf2 := blk_free (o := 2) hbx7
    clear hbx7 q0 q1 qf n0
    cases hlp : (lp || lpF (decide (0 < nl)) ks) with
    | true =>
     rw [hlp] at q2 HS6
     go_wp2
     first | go_end0 | refine bodyPost_ret (results_none rfl _ _ _) rfl ?_
     refine ⟨rfl, ?_, ((HG0.out.trans HGR.out).trans HK6.out).trans (FdK.set _ _)⟩
     rw [ownD, if_neg HF.out, lpD, if_neg HF.out, if_pos H15.out.1, H15.out.2.1, H15.out.2.2, Bool.true_and, HR.out, ← List.append_assoc, HM.out, Bool.or_false, ← Bool.or_assoc, hlp]
     have h := HS6.out.loop true
     simpa using h
    | false =>
     rw [hlp] at q2 HS6
     by_cases h0 : 0 < nl
     ·have i3 : (0 : Int) < (nl : Int) := by omega
      go_wp2
      first | go_end0 | refine bodyPost_ret (results_none rfl _ _ _) rfl ?_
      refine ⟨rfl, ?_, ((HG0.out.trans HGR.out).trans HK6.out).trans (FdK.set _ _)⟩
      rw [ownD, if_neg HF.out, lpD, if_neg HF.out, if_pos H15.out.1, H15.out.2.1, H15.out.2.2, Bool.true_and, HR.out, ← List.append_assoc, HM.out, Bool.or_false, ← Bool.or_assoc, hlp, decide_eq_true h0]
      have h := HS6.out.loop true
      simpa using h
     ·have i3 : ¬ (0 : Int) < (nl : Int) := by omega
      go_wp2
      first | go_end0 | refine bodyPost_ret (results_none rfl _ _ _) rfl ?_
      refine ⟨rfl, ?_, ((HG0.out.trans HGR.out).trans HK6.out).trans (FdK.set _ _)⟩
      have hd : decide (0 < nl) = false := decide_eq_false h0
      rw [hd] at hlp
      rw [ownD, if_neg HF.out, lpD, if_neg HF.out, if_pos H15.out.1, H15.out.2.1, HR.out, ← List.append_assoc, HM.out]
      first | rw [hd] | skip
      simp only [Bool.or_false, Bool.and_false, hlp]
      have h := HS6.out.loop false
      simpa using h
theorem walk_any {L : List NodeM} {w0 : World} {fp : Nat} {v : Value} (hT : RdL CeNode 5 w0 v L) (hL : L.length ≤ 4000) : ∀ (N : Nat) (t : T), sizeT t ≤ N → ∀ b, Sub L b (flat b t) → WalkC w0 fp v b t
 | 0, t, h, _, _ => absurd h (by have := sizeT_pos t; omega)
 | N + 1, .node k s ty n ks, h, b, hs => by
  have hsl : sizeL ks ≤ N := by simp only [sizeT] at h; omega
  have hs1 : Sub L b (flatL b ks) := by rw [flat] at hs; exact hs.left
  have hs2 : L[b + sizeL ks]? = some ⟨k, s, ty, n, rootsL b ks⟩ := by
   rw [flat] at hs
   have := hs.right 0 _ rfl
   rwa [flatL_len] at this
  have H : WkS L w0 v b k n s ty ks := ⟨hT, hL, hs2⟩
  have hkid : ∀ (i : Nat) (t : T), ks[i]? = some t → WalkC w0 fp v (b + sizeL (ks.take i)) t := fun i t ht => walk_any hT hL N t (by have := size_le ht; omega) _ (sub_kid hs1 ht)
  by_cases h33 : k = 33
  ·exact walk_fn33 h33 H hkid
  by_cases h2 : k = 2
  ·exact walk_fn2 h2 H hkid
  by_cases h11 : k = 11
  ·exact walk_loop h11 H hkid
  by_cases h15 : k = 15
  ·exact walk_def h15 H hkid
  exact walk_plain h33 h2 h11 h15 H hkid
end Go.Proofs.Ytcjgagmcnmmfoaa.Pa

namespace Go.Proofs.Ytcjgagmcnmmfoaa.Pa
open Go.RowKit

theorem three {w : World} {P : Nat} {T : TypeId} {a0 a1 a2 : Value} (h : w.heap[P]? = some (.cells #[a0, a1, a2] T (0, 0))) (v0 v1 v2 : Value) : (((w.setCell ⟨P, 0, none⟩ v0).setCell ⟨P, 1, none⟩ v1).setCell ⟨P, 2, none⟩ v2).heap[P]? = some (.cells #[v0, v1, v2] T (0, 0)) := by
 have s0 : (w.setCell ⟨P, 0, none⟩ v0).heap[P]? = some (.cells #[v0, a1, a2] T (0, 0)) := blk_set (o := 0) h v0
 have s1 := (blk_set (o := 1) s0 v1 : _ = some (Obj.cells #[v0, v1, a2] T (0, 0)))
 exact blk_set (o := 2) s1 v2
theorem threeT {w : World} {P : Nat} {T : TypeId} {a0 a1 a2 : Value} (h : w.heap[P]? = some (.cells #[a0, a1, a2] T (0, 0))) (v0 v1 v2 : Value) : Touch T w (((w.setCell ⟨P, 0, none⟩ v0).setCell ⟨P, 1, none⟩ v1).setCell ⟨P, 2, none⟩ v2) := by
 have s0 : (w.setCell ⟨P, 0, none⟩ v0).heap[P]? = some (.cells #[v0, a1, a2] T (0, 0)) := blk_set (o := 0) h v0
 have s1 := (blk_set (o := 1) s0 v1 : _ = some (Obj.cells #[v0, v1, a2] T (0, 0)))
 exact ((rowTouch (o := 0) h v0).trans (rowTouch (o := 1) s0 v1)).trans (rowTouch (o := 2) s1 v2)
theorem plan_end {w wr u : World} {rp : Nat} {sv : Value} {S : List Nat} {i : Nat} {o : Bool} {z0 z1 z2 : Value} (hk : Kp w wr) (hu : Kp wr u) (hrp : w.heap.size ≤ rp) (hb : wr.heap[rp]? = some (.cells #[z0, z1, z2] 33 (0, 0))) (hr : OwnN wr w.heap.size sv S) :
  let w9 := ((u.setCell ⟨rp, 0, none⟩ (.int .i64 (i : Int))).setCell ⟨rp, 1, none⟩ sv).setCell ⟨rp, 2, none⟩ (.bool o)
  w9.heap[rp]? = some (.cells #[.int .i64 (i : Int), sv, .bool o] 33 (0, 0)) ∧ OwnN w9 w.heap.size sv S ∧ Kp w w9 := by
 have hb2 := (hu.block _ (blk_lt hb)).trans hb
 refine ⟨three hb2 _ _ _, ownsRow_touch (by decide) (hr.kp hu) (threeT hb2 _ _ _), ?_⟩
 exact (((hk.trans hu).setCell (p := ⟨rp, 0, none⟩) hrp _).setCell (p := ⟨rp, 1, none⟩) hrp _).setCell (p := ⟨rp, 2, none⟩) hrp _
theorem plan_any {L : List NodeM} {w : World} {v : Value} {b : Nat} {k n : Int} {s ty : ByteArray} {ks : List T} (hT : RdL CeNode 5 w v L) (hL : L.length ≤ 4000) (hroot : L[b + sizeL ks]? = some ⟨k, s, ty, n, rootsL b ks⟩) (hsub : Sub L b (flatL b ks)) :
  Calls Try.prog 12 #[v, .int .i64 ((b + sizeL ks : Nat) : Int)] w fun e w' => (∃ sv, e = .returned (.agg #[.int .i64 ((b + sizeL ks : Nat) : Int), sv, .bool (planM b ks).opn]) ∧ OwnN w' w.heap.size sv (ownF b ks)) ∧ Kp w w' := by
 have HWK := hid fun (fp i : Nat) (t : T) (ht : ks[i]? = some t) => walk_any (fp := fp) hT hL (sizeT t) t (Nat.le_refl _) _ (sub_kid hsub ht)
 obtain ⟨A, c, rfl, _⟩ := hT.form
 obtain ⟨bt, off, rfl, hbt, lk, g0, g1, g2, g3, g4, _, _, _, _, rk0, _⟩ := at_node hT hroot
 obtain ⟨Ak, ck, hlk⟩ := rk0.form
 rw [rootsL_len] at hlk
 subst hlk
 have HRK := hid rk0
 have hsz := (List.getElem?_eq_some_iff.1 hroot).1
 have hlen : ks.length ≤ 4000 := by have h2 := sizeL_ge ks; omega
 have HLK := hid hlen
 have HSZ := hid (show sizeL ks ≤ 4000 by omega)
 have i1 : (((b + sizeL ks : Nat)) : Int) < (L.length : Int) := by omega
 try dsimp only at g4
 clear g0 g1 g2 g3 rk0 hroot hsub hT hL hsz hlen
 obtain ⟨r, hr⟩ : ∃ r, b + sizeL ks = r := ⟨_, rfl⟩
 have HR := hid hr
 rw [hr] at i1 g4 ⊢
 clear hr
 go_enter Try.func12, Try.ntmps12
 go_upto_region 2 with fail
 have hrp := blk_old (blk_new w (.cells #[.int .i64 0, .slice none 0 0, .bool false] 33)) (.cells #[.slice (some ⟨bt, off, none⟩) L.length c, .slice none 0 0, .bool false] 64)
 have hfp := blk_new (w.alloc (.cells #[.int .i64 0, .slice none 0 0, .bool false] 33)) (.cells #[.slice (some ⟨bt, off, none⟩) L.length c, .slice none 0 0, .bool false] 64)
 rw [World.size_alloc] at hfp
 have hkw := ((Kp.refl w).alloc (.cells #[.int .i64 0, .slice none 0 0, .bool false] 33)).alloc (.cells #[.slice (some ⟨bt, off, none⟩) L.length c, .slice none 0 0, .bool false] 64)
 have HFS := hid (show FdS w (w.heap.size + 1) (.slice (some ⟨bt, off, none⟩) L.length c) [] false _ from ⟨hkw, Nat.le_succ _, _, hfp, OwnN.nil _ _⟩)
 have HRP := hid hrp
 have g4 := cell_kp hkw hbt g4
 generalize World.alloc _ _ = W at HFS HRP g4 ⊢
 obtain ⟨fp, hfp0⟩ : ∃ fp, w.heap.size + 1 = fp := ⟨_, rfl⟩
 have HFP := hid (show w.heap.size ≠ fp by omega)
 rw [hfp0] at HFS ⊢
 clear hrp hfp hkw hfp0
 go_wp2_with fail
 go_loopw [17] (fun x wr => ∃ i : Nat, i ≤ ks.length ∧ x = .int .i64 (i : Int) ∧ FdS w fp (.slice (some ⟨bt, off, none⟩) L.length c) (ownF b (ks.take i)) (lpF false (ks.take i)) wr ∧ FdK fp W wr) (fun x _ => ks.length - (intOf x).toNat)
 case atStart => exact ⟨0, Nat.zero_le _, rfl, by simpa [ownF, lpF] using HFS.out, FdK.refl _ _⟩
 case round =>
  obtain ⟨i, hi, rfl, hc, hgr⟩ := hrel
  have HC := hid hc; have HGR := hid hgr
  clear g4
  by_cases hl : i < ks.length
  ·have i2 : (i : Int) < (ks.length : Int) := by omega
   obtain ⟨t, ht⟩ : ∃ t, ks[i]? = some t := ⟨_, List.getElem?_eq_getElem hl⟩
   obtain ⟨kb, ko, rfl, hkb, c2⟩ := ints_at (HRK.out.kp hc.kp) (roots_get ht)
   have HCALL := hid (HWK.out fp i t ht wr _ _ 0 hc (by have h1 := size_upto ht; have h2 := own_lenF b (ks.take i); have h3 := HSZ.out; omega) (by have := size_le ht; have := HSZ.out; omega))
   have HT := hid ht
   have HL := hid hl
   have k1 : IntKind.i64.wrap ((i : Int) + 1) = ((i + 1 : Nat) : Int) := by rw [IntKind.wrap_i64]; have := HLK.out; omega
   obtain ⟨q, hq⟩ : ∃ q, rootT (b + sizeL (ks.take i)) t = q := ⟨_, rfl⟩
   rw [hq] at HCALL c2
   clear hc hgr hi hl ht hq i1
   go_wp2_with (go_at_call 24; go_must (refine HCALL.out.mono ?_); rintro e w3 ⟨rfl, hs3, hg3⟩)
   refine ⟨⟨i + 1, HL.out, rfl, ?_, HGR.out.trans hg3⟩, meas_up HL.out⟩
   rw [own_take HT.out, lp_take HT.out]
   exact hs3
  ·have i2 : ¬ (i : Int) < (ks.length : Int) := by omega
   obtain rfl : i = ks.length := by omega
   rw [List.take_length] at HC
   have hb := HGR.out.keep _ _ _ _ HRP.out (by decide) HFP.out
   have HB := hid hb
   obtain ⟨sv, hbx, how⟩ := HC.out.ex
   obtain ⟨A3, c3, rfl⟩ := own_form how
   obtain ⟨N3, hN3⟩ : ∃ N3, (ownF b ks).length = N3 := ⟨_, rfl⟩
   rw [hN3] at how hbx
   have HN3 := hid hN3
   clear hN3
   have HOW := hid how
   have q1 := blk_cell (o := 1) hbx rfl
   have q2 := blk_cell (o := 2) hbx rfl
   have lt1 := blk_lt hbx
   clear hb how hbx hi hl hc hgr i1
   go_upto_region 7 with fail
   cases hlp : lpF false ks with
   | true =>
    have HLP := hid hlp
    rw [hlp] at q2
    clear i2 hlp
    refine wp_region_last 19 [[], [], [1], [2], [3], [], [5], [6], [7], [8], [9], [10], [10, 11], [10, 12], [10, 13], [10, 14], [10, 15], [10, 16], [0, 4, 17], [18]] (fun u => Kp wr u)
     [fun (y : Value) (u : World) => y = (.int .i64 (r : Int) : Value),
     fun (y : Value) (u : World) => y = (.pointer (some ⟨fp, 0, none⟩) : Value),
     fun (y : Value) (u : World) => y = (.pointer (some ⟨fp, 0, none⟩) : Value),
     fun (y : Value) (u : World) => y = (.pointer (some ⟨fp, 1, none⟩) : Value),
     fun (y : Value) (u : World) => y = (.slice A3 N3 c3 : Value),
     fun (y : Value) (u : World) => y = (.pointer (some ⟨fp, 0, none⟩) : Value),
     fun (y : Value) (u : World) => y = (.pointer (some ⟨fp, 0, none⟩) : Value),
     fun (y : Value) (u : World) => y = (.pointer (some ⟨fp, 2, none⟩) : Value),
     fun (y : Value) (u : World) => y = (.bool true : Value),
     fun (y : Value) (u : World) => y = (.bool false : Value),
     fun (y : Value) (u : World) => y = (.bool false : Value),
     fun (y : Value) (u : World) => y = (undef : Value),
     fun (y : Value) (u : World) => y = (undef : Value),
     fun (y : Value) (u : World) => y = (undef : Value),
     fun (y : Value) (u : World) => y = (undef : Value),
     fun (y : Value) (u : World) => y = (undef : Value),
     fun (y : Value) (u : World) => y = (undef : Value),
     fun (y : Value) (u : World) => y = (.bool false : Value),
     fun (y : Value) (u : World) => y = (.agg #[.int .i64 (r : Int), .slice A3 N3 c3, .bool false] : Value)]
     (by kernel_rfl) (by kernel_rfl) (by kernel_rfl) (by kernel_rfl) (by kernel_rfl) (by kernel_rfl) ((Kp.refl _).drew) (fun _ _ hk h => h.trans hk) ⟨fun _ _ _ _ h => h, fun _ _ _ _ h => h, fun _ _ _ _ h => h, fun _ _ _ _ h => h, fun _ _ _ _ h => h, fun _ _ _ _ h => h, fun _ _ _ _ h => h, fun _ _ _ _ h => h, fun _ _ _ _ h => h, fun _ _ _ _ h => h, fun _ _ _ _ h => h, fun _ _ _ _ h => h, fun _ _ _ _ h => h, fun _ _ _ _ h => h, fun _ _ _ _ h => h, fun _ _ _ _ h => h, fun _ _ _ _ h => h, fun _ _ _ _ h => h, fun _ _ _ _ h => h, trivial⟩ ⟨?sb0, ?sb1, ?sb2, ?sb3, ?sb4, ?sb5, ?sb6, ?sb7, ?sb8, ?sb9, ?sb10, ?sb11, ?sb12, ?sb13, ?sb14, ?sb15, ?sb16, ?sb17, ?sb18, trivial⟩ ⟨?hEb, trivial⟩
    case sb0 =>
     intro x u hg hd K hK
     clear hd
     refine ⟨?_⟩
     simp only [putsFrom, Act.put, List.setIfInBounds_toArray, List.set_cons_zero, List.set_cons_succ, Nat.reduceAdd] at hK ⊢
     go_simp
     exact hK.out _ _ (Kp.refl _) rfl
    case sb1 =>
     intro x u hg hd K hK
     clear hd
     refine ⟨?_⟩
     simp only [putsFrom, Act.put, List.setIfInBounds_toArray, List.set_cons_zero, List.set_cons_succ, Nat.reduceAdd] at hK ⊢
     go_simp
     exact hK.out _ _ (Kp.refl _) rfl
    case sb2 =>
     intro x u hg hd K hK
     have d1 : (x 1) = .pointer (some ⟨fp, 0, none⟩) := hd.1
     clear hd
     refine ⟨?_⟩
     simp only [putsFrom, Act.put, List.setIfInBounds_toArray, List.set_cons_zero, List.set_cons_succ, Nat.reduceAdd, d1] at hK ⊢
     go_simp
     exact hK.out _ _ (Kp.refl _) rfl
    case sb3 =>
     intro x u hg hd K hK
     have d2 : (x 2) = .pointer (some ⟨fp, 0, none⟩) := hd.1
     clear hd
     refine ⟨?_⟩
     simp only [putsFrom, Act.put, List.setIfInBounds_toArray, List.set_cons_zero, List.set_cons_succ, Nat.reduceAdd, d2] at hK ⊢
     go_simp
     exact hK.out _ _ (Kp.refl _) rfl
    case sb4 =>
     intro x u hg hd K hK
     have d3 : (x 3) = .pointer (some ⟨fp, 1, none⟩) := hd.1
     clear hd
     have q0 := cell_kp hg lt1 q1
     refine ⟨?_⟩
     simp only [putsFrom, Act.put, List.setIfInBounds_toArray, List.set_cons_zero, List.set_cons_succ, Nat.reduceAdd, d3] at hK ⊢
     go_simp
     exact hK.out _ _ (Kp.refl _) rfl
    case sb5 =>
     intro x u hg hd K hK
     clear hd
     refine ⟨?_⟩
     simp only [putsFrom, Act.put, List.setIfInBounds_toArray, List.set_cons_zero, List.set_cons_succ, Nat.reduceAdd] at hK ⊢
     go_simp
     exact hK.out _ _ (Kp.refl _) rfl
    case sb6 =>
     intro x u hg hd K hK
     have d5 : (x 5) = .pointer (some ⟨fp, 0, none⟩) := hd.1
     clear hd
     refine ⟨?_⟩
     simp only [putsFrom, Act.put, List.setIfInBounds_toArray, List.set_cons_zero, List.set_cons_succ, Nat.reduceAdd, d5] at hK ⊢
     go_simp
     exact hK.out _ _ (Kp.refl _) rfl
    case sb7 =>
     intro x u hg hd K hK
     have d6 : (x 6) = .pointer (some ⟨fp, 0, none⟩) := hd.1
     clear hd
     refine ⟨?_⟩
     simp only [putsFrom, Act.put, List.setIfInBounds_toArray, List.set_cons_zero, List.set_cons_succ, Nat.reduceAdd, d6] at hK ⊢
     go_simp
     exact hK.out _ _ (Kp.refl _) rfl
    case sb8 =>
     intro x u hg hd K hK
     have d7 : (x 7) = .pointer (some ⟨fp, 2, none⟩) := hd.1
     clear hd
     have q0 := cell_kp hg lt1 q2
     refine ⟨?_⟩
     simp only [putsFrom, Act.put, List.setIfInBounds_toArray, List.set_cons_zero, List.set_cons_succ, Nat.reduceAdd, d7] at hK ⊢
     go_simp
     exact hK.out _ _ (Kp.refl _) rfl
    case sb9 =>
     intro x u hg hd K hK
     have d8 : (x 8) = .bool true := hd.1
     clear hd
     refine ⟨?_⟩
     simp only [putsFrom, Act.put, List.setIfInBounds_toArray, List.set_cons_zero, List.set_cons_succ, Nat.reduceAdd, d8] at hK ⊢
     go_simp
     exact hK.out _ _ (Kp.refl _) rfl
    case sb10 =>
     intro x u hg hd K hK
     have d9 : (x 9) = .bool false := hd.1
     clear hd
     refine ⟨?_⟩
     simp only [putsFrom, Act.put, List.setIfInBounds_toArray, List.set_cons_zero, List.set_cons_succ, Nat.reduceAdd, d9] at hK ⊢
     go_simp
     exact hK.out _ _ (Kp.refl _) rfl
    case sb11 =>
     intro x u hg hd K hK
     have d10 : (x 10) = .bool false := hd.1
     clear hd
     refine ⟨?_⟩
     simp only [putsFrom, Act.put, List.setIfInBounds_toArray, List.set_cons_zero, List.set_cons_succ, Nat.reduceAdd, d10] at hK ⊢
     go_simp
     exact hK.out _ _ (Kp.refl _) rfl
    case sb12 =>
     intro x u hg hd K hK
     have d10 : (x 10) = .bool false := hd.1
     have d11 : (x 11) = undef := hd.2.1
     clear hd
     refine ⟨?_⟩
     simp only [putsFrom, Act.put, List.setIfInBounds_toArray, List.set_cons_zero, List.set_cons_succ, Nat.reduceAdd, d10, d11] at hK ⊢
     go_simp
     exact hK.out _ _ (Kp.refl _) rfl
    case sb13 =>
     intro x u hg hd K hK
     have d10 : (x 10) = .bool false := hd.1
     have d12 : (x 12) = undef := hd.2.1
     clear hd
     refine ⟨?_⟩
     simp only [putsFrom, Act.put, List.setIfInBounds_toArray, List.set_cons_zero, List.set_cons_succ, Nat.reduceAdd, d10, d12] at hK ⊢
     go_simp
     exact hK.out _ _ (Kp.refl _) rfl
    case sb14 =>
     intro x u hg hd K hK
     have d10 : (x 10) = .bool false := hd.1
     have d13 : (x 13) = undef := hd.2.1
     clear hd
     refine ⟨?_⟩
     simp only [putsFrom, Act.put, List.setIfInBounds_toArray, List.set_cons_zero, List.set_cons_succ, Nat.reduceAdd, d10, d13] at hK ⊢
     go_simp
     exact hK.out _ _ (Kp.refl _) rfl
    case sb15 =>
     intro x u hg hd K hK
     have d10 : (x 10) = .bool false := hd.1
     have d14 : (x 14) = undef := hd.2.1
     clear hd
     refine ⟨?_⟩
     simp only [putsFrom, Act.put, List.setIfInBounds_toArray, List.set_cons_zero, List.set_cons_succ, Nat.reduceAdd, d10, d14] at hK ⊢
     go_simp
     exact hK.out _ _ (Kp.refl _) rfl
    case sb16 =>
     intro x u hg hd K hK
     have d10 : (x 10) = .bool false := hd.1
     have d15 : (x 15) = undef := hd.2.1
     clear hd
     refine ⟨?_⟩
     simp only [putsFrom, Act.put, List.setIfInBounds_toArray, List.set_cons_zero, List.set_cons_succ, Nat.reduceAdd, d10, d15] at hK ⊢
     go_simp
     exact hK.out _ _ (Kp.refl _) rfl
    case sb17 =>
     intro x u hg hd K hK
     have d10 : (x 10) = .bool false := hd.1
     have d16 : (x 16) = undef := hd.2.1
     clear hd
     refine ⟨?_⟩
     simp only [putsFrom, Act.put, List.setIfInBounds_toArray, List.set_cons_zero, List.set_cons_succ, Nat.reduceAdd, d10, d16] at hK ⊢
     go_simp
     exact hK.out _ _ (Kp.refl _) rfl
    case sb18 =>
     intro x u hg hd K hK
     have d0 : (x 0) = .int .i64 (r : Int) := hd.1
     have d4 : (x 4) = .slice A3 N3 c3 := hd.2.1
     have d17 : (x 17) = .bool false := hd.2.2.1
     clear hd
     refine ⟨?_⟩
     simp only [putsFrom, Act.put, List.setIfInBounds_toArray, List.set_cons_zero, List.set_cons_succ, Nat.reduceAdd, d0, d4, d17] at hK ⊢
     go_simp
     exact hK.out _ _ (Kp.refl _) rfl
    intro x u hg he K hK
    have d0 : (x 0) = .int .i64 (r : Int) := he.1
    have d1 : (x 1) = .pointer (some ⟨fp, 0, none⟩) := he.2.1
    have d2 : (x 2) = .pointer (some ⟨fp, 0, none⟩) := he.2.2.1
    have d3 : (x 3) = .pointer (some ⟨fp, 1, none⟩) := he.2.2.2.1
    have d4 : (x 4) = .slice A3 N3 c3 := he.2.2.2.2.1
    have d5 : (x 5) = .pointer (some ⟨fp, 0, none⟩) := he.2.2.2.2.2.1
    have d6 : (x 6) = .pointer (some ⟨fp, 0, none⟩) := he.2.2.2.2.2.2.1
    have d7 : (x 7) = .pointer (some ⟨fp, 2, none⟩) := he.2.2.2.2.2.2.2.1
    have d8 : (x 8) = .bool true := he.2.2.2.2.2.2.2.2.1
    have d9 : (x 9) = .bool false := he.2.2.2.2.2.2.2.2.2.1
    have d10 : (x 10) = .bool false := he.2.2.2.2.2.2.2.2.2.2.1
    have d11 : (x 11) = undef := he.2.2.2.2.2.2.2.2.2.2.2.1
    have d12 : (x 12) = undef := he.2.2.2.2.2.2.2.2.2.2.2.2.1
    have d13 : (x 13) = undef := he.2.2.2.2.2.2.2.2.2.2.2.2.2.1
    have d14 : (x 14) = undef := he.2.2.2.2.2.2.2.2.2.2.2.2.2.2.1
    have d15 : (x 15) = undef := he.2.2.2.2.2.2.2.2.2.2.2.2.2.2.2.1
    have d16 : (x 16) = undef := he.2.2.2.2.2.2.2.2.2.2.2.2.2.2.2.2.1
    have d17 : (x 17) = .bool false := he.2.2.2.2.2.2.2.2.2.2.2.2.2.2.2.2.2.1
    have d18 : (x 18) = .agg #[.int .i64 (r : Int), .slice A3 N3 c3, .bool false] := he.2.2.2.2.2.2.2.2.2.2.2.2.2.2.2.2.2.2.1
    clear he
    have hbu := (hg.block _ (blk_lt HB.out)).trans HB.out
    have z0 := blk_free (o := 0) hbu
    have z1 := blk_free (o := 1) hbu
    have z2 := blk_free (o := 2) hbu
    have y0 := blk_cell (o := 0) hbu rfl
    have y1 := blk_cell (o := 1) hbu rfl
    have y2 := blk_cell (o := 2) hbu rfl
    have HG := hid hg
    clear hbu
    refine ⟨?_⟩
    simp only [putsFrom, Act.put, List.setIfInBounds_toArray, List.set_cons_zero, List.set_cons_succ, Nat.reduceAdd, d0, d1, d2, d3, d4, d5, d6, d7, d8, d9, d10, d11, d12, d13, d14, d15, d16, d17, d18] at hK ⊢
    go_simp
    refine hK.out undef _ ⟨?_⟩
    clear hK
    clear d0 d1 d2 d3 d4 d5 d6 d7 d8 d9 d10 d11 d12 d13 d14 d15 d16 d17 d18
    go_wp2
    obtain ⟨z9, hr9, hk9⟩ := plan_end (i := r) (o := false) (w := w) HC.out.kp HG.out (Nat.le_refl _) HB.out HOW.out
    have z0 := blk_cell (o := 0) z9 rfl
    have z1 := blk_cell (o := 1) z9 rfl
    have z2 := blk_cell (o := 2) z9 rfl
    refine bodyPost_ret (v := .agg #[.int .i64 (r : Int), .slice A3 N3 c3, .bool false]) (by simp [results, Try.results12, go_sem, z0, z1, z2]) rfl ?_
    refine ⟨⟨_, ?_, hr9⟩, hk9⟩
    rw [show (planM b ks).opn = false by simp [planM, HLP.out]]
   | false =>
    have HLP := hid hlp
    rw [hlp] at q2
    clear i2 hlp
    by_cases hle : N3 ≤ 8
    ·have i8 : (N3 : Int) ≤ 8 := by omega
     have HLE := hid hle
     clear hle
     refine wp_region_last 19 [[], [], [1], [2], [3], [], [5], [6], [7], [8], [9], [10], [10, 11], [10, 12], [10, 13], [10, 14], [10, 15], [10, 16], [0, 4, 17], [18]] (fun u => Kp wr u)
      [fun (y : Value) (u : World) => y = (.int .i64 (r : Int) : Value),
      fun (y : Value) (u : World) => y = (.pointer (some ⟨fp, 0, none⟩) : Value),
      fun (y : Value) (u : World) => y = (.pointer (some ⟨fp, 0, none⟩) : Value),
      fun (y : Value) (u : World) => y = (.pointer (some ⟨fp, 1, none⟩) : Value),
      fun (y : Value) (u : World) => y = (.slice A3 N3 c3 : Value),
      fun (y : Value) (u : World) => y = (.pointer (some ⟨fp, 0, none⟩) : Value),
      fun (y : Value) (u : World) => y = (.pointer (some ⟨fp, 0, none⟩) : Value),
      fun (y : Value) (u : World) => y = (.pointer (some ⟨fp, 2, none⟩) : Value),
      fun (y : Value) (u : World) => y = (.bool false : Value),
      fun (y : Value) (u : World) => y = (.bool true : Value),
      fun (y : Value) (u : World) => y = (.bool true : Value),
      fun (y : Value) (u : World) => y = (.pointer (some ⟨fp, 0, none⟩) : Value),
      fun (y : Value) (u : World) => y = (.pointer (some ⟨fp, 0, none⟩) : Value),
      fun (y : Value) (u : World) => y = (.pointer (some ⟨fp, 1, none⟩) : Value),
      fun (y : Value) (u : World) => y = (.slice A3 N3 c3 : Value),
      fun (y : Value) (u : World) => y = (.int .i64 (N3 : Int) : Value),
      fun (y : Value) (u : World) => y = (.bool true : Value),
      fun (y : Value) (u : World) => y = (.bool true : Value),
      fun (y : Value) (u : World) => y = (.agg #[.int .i64 (r : Int), .slice A3 N3 c3, .bool true] : Value)]
      (by kernel_rfl) (by kernel_rfl) (by kernel_rfl) (by kernel_rfl) (by kernel_rfl) (by kernel_rfl) ((Kp.refl _).drew) (fun _ _ hk h => h.trans hk) ⟨fun _ _ _ _ h => h, fun _ _ _ _ h => h, fun _ _ _ _ h => h, fun _ _ _ _ h => h, fun _ _ _ _ h => h, fun _ _ _ _ h => h, fun _ _ _ _ h => h, fun _ _ _ _ h => h, fun _ _ _ _ h => h, fun _ _ _ _ h => h, fun _ _ _ _ h => h, fun _ _ _ _ h => h, fun _ _ _ _ h => h, fun _ _ _ _ h => h, fun _ _ _ _ h => h, fun _ _ _ _ h => h, fun _ _ _ _ h => h, fun _ _ _ _ h => h, fun _ _ _ _ h => h, trivial⟩ ⟨?sc0, ?sc1, ?sc2, ?sc3, ?sc4, ?sc5, ?sc6, ?sc7, ?sc8, ?sc9, ?sc10, ?sc11, ?sc12, ?sc13, ?sc14, ?sc15, ?sc16, ?sc17, ?sc18, trivial⟩ ⟨?hEc, trivial⟩
     case sc0 =>
      intro x u hg hd K hK
      clear hd
      refine ⟨?_⟩
      simp only [putsFrom, Act.put, List.setIfInBounds_toArray, List.set_cons_zero, List.set_cons_succ, Nat.reduceAdd] at hK ⊢
      go_simp
      exact hK.out _ _ (Kp.refl _) rfl
     case sc1 =>
      intro x u hg hd K hK
      clear hd
      refine ⟨?_⟩
      simp only [putsFrom, Act.put, List.setIfInBounds_toArray, List.set_cons_zero, List.set_cons_succ, Nat.reduceAdd] at hK ⊢
      go_simp
      exact hK.out _ _ (Kp.refl _) rfl
     case sc2 =>
      intro x u hg hd K hK
      have d1 : (x 1) = .pointer (some ⟨fp, 0, none⟩) := hd.1
      clear hd
      refine ⟨?_⟩
      simp only [putsFrom, Act.put, List.setIfInBounds_toArray, List.set_cons_zero, List.set_cons_succ, Nat.reduceAdd, d1] at hK ⊢
      go_simp
      exact hK.out _ _ (Kp.refl _) rfl
     case sc3 =>
      intro x u hg hd K hK
      have d2 : (x 2) = .pointer (some ⟨fp, 0, none⟩) := hd.1
      clear hd
      refine ⟨?_⟩
      simp only [putsFrom, Act.put, List.setIfInBounds_toArray, List.set_cons_zero, List.set_cons_succ, Nat.reduceAdd, d2] at hK ⊢
      go_simp
      exact hK.out _ _ (Kp.refl _) rfl
     case sc4 =>
      intro x u hg hd K hK
      have d3 : (x 3) = .pointer (some ⟨fp, 1, none⟩) := hd.1
      clear hd
      have q0 := cell_kp hg lt1 q1
      refine ⟨?_⟩
      simp only [putsFrom, Act.put, List.setIfInBounds_toArray, List.set_cons_zero, List.set_cons_succ, Nat.reduceAdd, d3] at hK ⊢
      go_simp
      exact hK.out _ _ (Kp.refl _) rfl
     case sc5 =>
      intro x u hg hd K hK
      clear hd
      refine ⟨?_⟩
      simp only [putsFrom, Act.put, List.setIfInBounds_toArray, List.set_cons_zero, List.set_cons_succ, Nat.reduceAdd] at hK ⊢
      go_simp
      exact hK.out _ _ (Kp.refl _) rfl
     case sc6 =>
      intro x u hg hd K hK
      have d5 : (x 5) = .pointer (some ⟨fp, 0, none⟩) := hd.1
      clear hd
      refine ⟨?_⟩
      simp only [putsFrom, Act.put, List.setIfInBounds_toArray, List.set_cons_zero, List.set_cons_succ, Nat.reduceAdd, d5] at hK ⊢
      go_simp
      exact hK.out _ _ (Kp.refl _) rfl
     case sc7 =>
      intro x u hg hd K hK
      have d6 : (x 6) = .pointer (some ⟨fp, 0, none⟩) := hd.1
      clear hd
      refine ⟨?_⟩
      simp only [putsFrom, Act.put, List.setIfInBounds_toArray, List.set_cons_zero, List.set_cons_succ, Nat.reduceAdd, d6] at hK ⊢
      go_simp
      exact hK.out _ _ (Kp.refl _) rfl
     case sc8 =>
      intro x u hg hd K hK
      have d7 : (x 7) = .pointer (some ⟨fp, 2, none⟩) := hd.1
      clear hd
      have q0 := cell_kp hg lt1 q2
      refine ⟨?_⟩
      simp only [putsFrom, Act.put, List.setIfInBounds_toArray, List.set_cons_zero, List.set_cons_succ, Nat.reduceAdd, d7] at hK ⊢
      go_simp
      exact hK.out _ _ (Kp.refl _) rfl
     case sc9 =>
      intro x u hg hd K hK
      have d8 : (x 8) = .bool false := hd.1
      clear hd
      refine ⟨?_⟩
      simp only [putsFrom, Act.put, List.setIfInBounds_toArray, List.set_cons_zero, List.set_cons_succ, Nat.reduceAdd, d8] at hK ⊢
      go_simp
      exact hK.out _ _ (Kp.refl _) rfl
     case sc10 =>
      intro x u hg hd K hK
      have d9 : (x 9) = .bool true := hd.1
      clear hd
      refine ⟨?_⟩
      simp only [putsFrom, Act.put, List.setIfInBounds_toArray, List.set_cons_zero, List.set_cons_succ, Nat.reduceAdd, d9] at hK ⊢
      go_simp
      exact hK.out _ _ (Kp.refl _) rfl
     case sc11 =>
      intro x u hg hd K hK
      have d10 : (x 10) = .bool true := hd.1
      clear hd
      refine ⟨?_⟩
      simp only [putsFrom, Act.put, List.setIfInBounds_toArray, List.set_cons_zero, List.set_cons_succ, Nat.reduceAdd, d10] at hK ⊢
      go_simp
      exact hK.out _ _ (Kp.refl _) rfl
     case sc12 =>
      intro x u hg hd K hK
      have d10 : (x 10) = .bool true := hd.1
      have d11 : (x 11) = .pointer (some ⟨fp, 0, none⟩) := hd.2.1
      clear hd
      refine ⟨?_⟩
      simp only [putsFrom, Act.put, List.setIfInBounds_toArray, List.set_cons_zero, List.set_cons_succ, Nat.reduceAdd, d10, d11] at hK ⊢
      go_simp
      exact hK.out _ _ (Kp.refl _) rfl
     case sc13 =>
      intro x u hg hd K hK
      have d10 : (x 10) = .bool true := hd.1
      have d12 : (x 12) = .pointer (some ⟨fp, 0, none⟩) := hd.2.1
      clear hd
      refine ⟨?_⟩
      simp only [putsFrom, Act.put, List.setIfInBounds_toArray, List.set_cons_zero, List.set_cons_succ, Nat.reduceAdd, d10, d12] at hK ⊢
      go_simp
      exact hK.out _ _ (Kp.refl _) rfl
     case sc14 =>
      intro x u hg hd K hK
      have d10 : (x 10) = .bool true := hd.1
      have d13 : (x 13) = .pointer (some ⟨fp, 1, none⟩) := hd.2.1
      clear hd
      have q0 := cell_kp hg lt1 q1
      refine ⟨?_⟩
      simp only [putsFrom, Act.put, List.setIfInBounds_toArray, List.set_cons_zero, List.set_cons_succ, Nat.reduceAdd, d10, d13] at hK ⊢
      go_simp
      exact hK.out _ _ (Kp.refl _) rfl
     case sc15 =>
      intro x u hg hd K hK
      have d10 : (x 10) = .bool true := hd.1
      have d14 : (x 14) = .slice A3 N3 c3 := hd.2.1
      clear hd
      refine ⟨?_⟩
      simp only [putsFrom, Act.put, List.setIfInBounds_toArray, List.set_cons_zero, List.set_cons_succ, Nat.reduceAdd, d10, d14] at hK ⊢
      go_simp
      exact hK.out _ _ (Kp.refl _) rfl
     case sc16 =>
      intro x u hg hd K hK
      have d10 : (x 10) = .bool true := hd.1
      have d15 : (x 15) = .int .i64 (N3 : Int) := hd.2.1
      clear hd
      refine ⟨?_⟩
      simp only [putsFrom, Act.put, List.setIfInBounds_toArray, List.set_cons_zero, List.set_cons_succ, Nat.reduceAdd, d10, d15] at hK ⊢
      go_simp
      exact hK.out _ _ (Kp.refl _) rfl
     case sc17 =>
      intro x u hg hd K hK
      have d10 : (x 10) = .bool true := hd.1
      have d16 : (x 16) = .bool true := hd.2.1
      clear hd
      refine ⟨?_⟩
      simp only [putsFrom, Act.put, List.setIfInBounds_toArray, List.set_cons_zero, List.set_cons_succ, Nat.reduceAdd, d10, d16] at hK ⊢
      go_simp
      exact hK.out _ _ (Kp.refl _) rfl
     case sc18 =>
      intro x u hg hd K hK
      have d0 : (x 0) = .int .i64 (r : Int) := hd.1
      have d4 : (x 4) = .slice A3 N3 c3 := hd.2.1
      have d17 : (x 17) = .bool true := hd.2.2.1
      clear hd
      refine ⟨?_⟩
      simp only [putsFrom, Act.put, List.setIfInBounds_toArray, List.set_cons_zero, List.set_cons_succ, Nat.reduceAdd, d0, d4, d17] at hK ⊢
      go_simp
      exact hK.out _ _ (Kp.refl _) rfl
     intro x u hg he K hK
     have d0 : (x 0) = .int .i64 (r : Int) := he.1
     have d1 : (x 1) = .pointer (some ⟨fp, 0, none⟩) := he.2.1
     have d2 : (x 2) = .pointer (some ⟨fp, 0, none⟩) := he.2.2.1
     have d3 : (x 3) = .pointer (some ⟨fp, 1, none⟩) := he.2.2.2.1
     have d4 : (x 4) = .slice A3 N3 c3 := he.2.2.2.2.1
     have d5 : (x 5) = .pointer (some ⟨fp, 0, none⟩) := he.2.2.2.2.2.1
     have d6 : (x 6) = .pointer (some ⟨fp, 0, none⟩) := he.2.2.2.2.2.2.1
     have d7 : (x 7) = .pointer (some ⟨fp, 2, none⟩) := he.2.2.2.2.2.2.2.1
     have d8 : (x 8) = .bool false := he.2.2.2.2.2.2.2.2.1
     have d9 : (x 9) = .bool true := he.2.2.2.2.2.2.2.2.2.1
     have d10 : (x 10) = .bool true := he.2.2.2.2.2.2.2.2.2.2.1
     have d11 : (x 11) = .pointer (some ⟨fp, 0, none⟩) := he.2.2.2.2.2.2.2.2.2.2.2.1
     have d12 : (x 12) = .pointer (some ⟨fp, 0, none⟩) := he.2.2.2.2.2.2.2.2.2.2.2.2.1
     have d13 : (x 13) = .pointer (some ⟨fp, 1, none⟩) := he.2.2.2.2.2.2.2.2.2.2.2.2.2.1
     have d14 : (x 14) = .slice A3 N3 c3 := he.2.2.2.2.2.2.2.2.2.2.2.2.2.2.1
     have d15 : (x 15) = .int .i64 (N3 : Int) := he.2.2.2.2.2.2.2.2.2.2.2.2.2.2.2.1
     have d16 : (x 16) = .bool true := he.2.2.2.2.2.2.2.2.2.2.2.2.2.2.2.2.1
     have d17 : (x 17) = .bool true := he.2.2.2.2.2.2.2.2.2.2.2.2.2.2.2.2.2.1
     have d18 : (x 18) = .agg #[.int .i64 (r : Int), .slice A3 N3 c3, .bool true] := he.2.2.2.2.2.2.2.2.2.2.2.2.2.2.2.2.2.2.1
     clear he
     have hbu := (hg.block _ (blk_lt HB.out)).trans HB.out
     have z0 := blk_free (o := 0) hbu
     have z1 := blk_free (o := 1) hbu
     have z2 := blk_free (o := 2) hbu
     have y0 := blk_cell (o := 0) hbu rfl
     have y1 := blk_cell (o := 1) hbu rfl
     have y2 := blk_cell (o := 2) hbu rfl
     have HG := hid hg
     clear hbu
     refine ⟨?_⟩
     simp only [putsFrom, Act.put, List.setIfInBounds_toArray, List.set_cons_zero, List.set_cons_succ, Nat.reduceAdd, d0, d1, d2, d3, d4, d5, d6, d7, d8, d9, d10, d11, d12, d13, d14, d15, d16, d17, d18] at hK ⊢
     go_simp
     refine hK.out undef _ ⟨?_⟩
     clear hK
     clear d0 d1 d2 d3 d4 d5 d6 d7 d8 d9 d10 d11 d12 d13 d14 d15 d16 d17 d18
     go_wp2
     obtain ⟨z9, hr9, hk9⟩ := plan_end (i := r) (o := true) (w := w) HC.out.kp HG.out (Nat.le_refl _) HB.out HOW.out
     have z0 := blk_cell (o := 0) z9 rfl
     have z1 := blk_cell (o := 1) z9 rfl
     have z2 := blk_cell (o := 2) z9 rfl
     refine bodyPost_ret (v := .agg #[.int .i64 (r : Int), .slice A3 N3 c3, .bool true]) (by simp [results, Try.results12, go_sem, z0, z1, z2]) rfl ?_
     refine ⟨⟨_, ?_, hr9⟩, hk9⟩
     rw [show (planM b ks).opn = true by simp [planM, HLP.out, HN3.out, HLE.out]]
    ·have i8 : ¬ (N3 : Int) ≤ 8 := by omega
     have HLE := hid hle
     clear hle
     refine wp_region_last 19 [[], [], [1], [2], [3], [], [5], [6], [7], [8], [9], [10], [10, 11], [10, 12], [10, 13], [10, 14], [10, 15], [10, 16], [0, 4, 17], [18]] (fun u => Kp wr u)
      [fun (y : Value) (u : World) => y = (.int .i64 (r : Int) : Value),
      fun (y : Value) (u : World) => y = (.pointer (some ⟨fp, 0, none⟩) : Value),
      fun (y : Value) (u : World) => y = (.pointer (some ⟨fp, 0, none⟩) : Value),
      fun (y : Value) (u : World) => y = (.pointer (some ⟨fp, 1, none⟩) : Value),
      fun (y : Value) (u : World) => y = (.slice A3 N3 c3 : Value),
      fun (y : Value) (u : World) => y = (.pointer (some ⟨fp, 0, none⟩) : Value),
      fun (y : Value) (u : World) => y = (.pointer (some ⟨fp, 0, none⟩) : Value),
      fun (y : Value) (u : World) => y = (.pointer (some ⟨fp, 2, none⟩) : Value),
      fun (y : Value) (u : World) => y = (.bool false : Value),
      fun (y : Value) (u : World) => y = (.bool true : Value),
      fun (y : Value) (u : World) => y = (.bool true : Value),
      fun (y : Value) (u : World) => y = (.pointer (some ⟨fp, 0, none⟩) : Value),
      fun (y : Value) (u : World) => y = (.pointer (some ⟨fp, 0, none⟩) : Value),
      fun (y : Value) (u : World) => y = (.pointer (some ⟨fp, 1, none⟩) : Value),
      fun (y : Value) (u : World) => y = (.slice A3 N3 c3 : Value),
      fun (y : Value) (u : World) => y = (.int .i64 (N3 : Int) : Value),
      fun (y : Value) (u : World) => y = (.bool false : Value),
      fun (y : Value) (u : World) => y = (.bool false : Value),
      fun (y : Value) (u : World) => y = (.agg #[.int .i64 (r : Int), .slice A3 N3 c3, .bool false] : Value)]
      (by kernel_rfl) (by kernel_rfl) (by kernel_rfl) (by kernel_rfl) (by kernel_rfl) (by kernel_rfl) ((Kp.refl _).drew) (fun _ _ hk h => h.trans hk) ⟨fun _ _ _ _ h => h, fun _ _ _ _ h => h, fun _ _ _ _ h => h, fun _ _ _ _ h => h, fun _ _ _ _ h => h, fun _ _ _ _ h => h, fun _ _ _ _ h => h, fun _ _ _ _ h => h, fun _ _ _ _ h => h, fun _ _ _ _ h => h, fun _ _ _ _ h => h, fun _ _ _ _ h => h, fun _ _ _ _ h => h, fun _ _ _ _ h => h, fun _ _ _ _ h => h, fun _ _ _ _ h => h, fun _ _ _ _ h => h, fun _ _ _ _ h => h, fun _ _ _ _ h => h, trivial⟩ ⟨?sd0, ?sd1, ?sd2, ?sd3, ?sd4, ?sd5, ?sd6, ?sd7, ?sd8, ?sd9, ?sd10, ?sd11, ?sd12, ?sd13, ?sd14, ?sd15, ?sd16, ?sd17, ?sd18, trivial⟩ ⟨?hEd, trivial⟩
     case sd0 =>
      intro x u hg hd K hK
      clear hd
      refine ⟨?_⟩
      simp only [putsFrom, Act.put, List.setIfInBounds_toArray, List.set_cons_zero, List.set_cons_succ, Nat.reduceAdd] at hK ⊢
      go_simp
      exact hK.out _ _ (Kp.refl _) rfl
     case sd1 =>
      intro x u hg hd K hK
      clear hd
      refine ⟨?_⟩
      simp only [putsFrom, Act.put, List.setIfInBounds_toArray, List.set_cons_zero, List.set_cons_succ, Nat.reduceAdd] at hK ⊢
      go_simp
      exact hK.out _ _ (Kp.refl _) rfl
     case sd2 =>
      intro x u hg hd K hK
      have d1 : (x 1) = .pointer (some ⟨fp, 0, none⟩) := hd.1
      clear hd
      refine ⟨?_⟩
      simp only [putsFrom, Act.put, List.setIfInBounds_toArray, List.set_cons_zero, List.set_cons_succ, Nat.reduceAdd, d1] at hK ⊢
      go_simp
      exact hK.out _ _ (Kp.refl _) rfl
     case sd3 =>
      intro x u hg hd K hK
      have d2 : (x 2) = .pointer (some ⟨fp, 0, none⟩) := hd.1
      clear hd
      refine ⟨?_⟩
      simp only [putsFrom, Act.put, List.setIfInBounds_toArray, List.set_cons_zero, List.set_cons_succ, Nat.reduceAdd, d2] at hK ⊢
      go_simp
      exact hK.out _ _ (Kp.refl _) rfl
     case sd4 =>
      intro x u hg hd K hK
      have d3 : (x 3) = .pointer (some ⟨fp, 1, none⟩) := hd.1
      clear hd
      have q0 := cell_kp hg lt1 q1
      refine ⟨?_⟩
      simp only [putsFrom, Act.put, List.setIfInBounds_toArray, List.set_cons_zero, List.set_cons_succ, Nat.reduceAdd, d3] at hK ⊢
      go_simp
      exact hK.out _ _ (Kp.refl _) rfl
     case sd5 =>
      intro x u hg hd K hK
      clear hd
      refine ⟨?_⟩
      simp only [putsFrom, Act.put, List.setIfInBounds_toArray, List.set_cons_zero, List.set_cons_succ, Nat.reduceAdd] at hK ⊢
      go_simp
      exact hK.out _ _ (Kp.refl _) rfl
     case sd6 =>
      intro x u hg hd K hK
      have d5 : (x 5) = .pointer (some ⟨fp, 0, none⟩) := hd.1
      clear hd
      refine ⟨?_⟩
      simp only [putsFrom, Act.put, List.setIfInBounds_toArray, List.set_cons_zero, List.set_cons_succ, Nat.reduceAdd, d5] at hK ⊢
      go_simp
      exact hK.out _ _ (Kp.refl _) rfl
     case sd7 =>
      intro x u hg hd K hK
      have d6 : (x 6) = .pointer (some ⟨fp, 0, none⟩) := hd.1
      clear hd
      refine ⟨?_⟩
      simp only [putsFrom, Act.put, List.setIfInBounds_toArray, List.set_cons_zero, List.set_cons_succ, Nat.reduceAdd, d6] at hK ⊢
      go_simp
      exact hK.out _ _ (Kp.refl _) rfl
     case sd8 =>
      intro x u hg hd K hK
      have d7 : (x 7) = .pointer (some ⟨fp, 2, none⟩) := hd.1
      clear hd
      have q0 := cell_kp hg lt1 q2
      refine ⟨?_⟩
      simp only [putsFrom, Act.put, List.setIfInBounds_toArray, List.set_cons_zero, List.set_cons_succ, Nat.reduceAdd, d7] at hK ⊢
      go_simp
      exact hK.out _ _ (Kp.refl _) rfl
     case sd9 =>
      intro x u hg hd K hK
      have d8 : (x 8) = .bool false := hd.1
      clear hd
      refine ⟨?_⟩
      simp only [putsFrom, Act.put, List.setIfInBounds_toArray, List.set_cons_zero, List.set_cons_succ, Nat.reduceAdd, d8] at hK ⊢
      go_simp
      exact hK.out _ _ (Kp.refl _) rfl
     case sd10 =>
      intro x u hg hd K hK
      have d9 : (x 9) = .bool true := hd.1
      clear hd
      refine ⟨?_⟩
      simp only [putsFrom, Act.put, List.setIfInBounds_toArray, List.set_cons_zero, List.set_cons_succ, Nat.reduceAdd, d9] at hK ⊢
      go_simp
      exact hK.out _ _ (Kp.refl _) rfl
     case sd11 =>
      intro x u hg hd K hK
      have d10 : (x 10) = .bool true := hd.1
      clear hd
      refine ⟨?_⟩
      simp only [putsFrom, Act.put, List.setIfInBounds_toArray, List.set_cons_zero, List.set_cons_succ, Nat.reduceAdd, d10] at hK ⊢
      go_simp
      exact hK.out _ _ (Kp.refl _) rfl
     case sd12 =>
      intro x u hg hd K hK
      have d10 : (x 10) = .bool true := hd.1
      have d11 : (x 11) = .pointer (some ⟨fp, 0, none⟩) := hd.2.1
      clear hd
      refine ⟨?_⟩
      simp only [putsFrom, Act.put, List.setIfInBounds_toArray, List.set_cons_zero, List.set_cons_succ, Nat.reduceAdd, d10, d11] at hK ⊢
      go_simp
      exact hK.out _ _ (Kp.refl _) rfl
     case sd13 =>
      intro x u hg hd K hK
      have d10 : (x 10) = .bool true := hd.1
      have d12 : (x 12) = .pointer (some ⟨fp, 0, none⟩) := hd.2.1
      clear hd
      refine ⟨?_⟩
      simp only [putsFrom, Act.put, List.setIfInBounds_toArray, List.set_cons_zero, List.set_cons_succ, Nat.reduceAdd, d10, d12] at hK ⊢
      go_simp
      exact hK.out _ _ (Kp.refl _) rfl
     case sd14 =>
      intro x u hg hd K hK
      have d10 : (x 10) = .bool true := hd.1
      have d13 : (x 13) = .pointer (some ⟨fp, 1, none⟩) := hd.2.1
      clear hd
      have q0 := cell_kp hg lt1 q1
      refine ⟨?_⟩
      simp only [putsFrom, Act.put, List.setIfInBounds_toArray, List.set_cons_zero, List.set_cons_succ, Nat.reduceAdd, d10, d13] at hK ⊢
      go_simp
      exact hK.out _ _ (Kp.refl _) rfl
     case sd15 =>
      intro x u hg hd K hK
      have d10 : (x 10) = .bool true := hd.1
      have d14 : (x 14) = .slice A3 N3 c3 := hd.2.1
      clear hd
      refine ⟨?_⟩
      simp only [putsFrom, Act.put, List.setIfInBounds_toArray, List.set_cons_zero, List.set_cons_succ, Nat.reduceAdd, d10, d14] at hK ⊢
      go_simp
      exact hK.out _ _ (Kp.refl _) rfl
     case sd16 =>
      intro x u hg hd K hK
      have d10 : (x 10) = .bool true := hd.1
      have d15 : (x 15) = .int .i64 (N3 : Int) := hd.2.1
      clear hd
      refine ⟨?_⟩
      simp only [putsFrom, Act.put, List.setIfInBounds_toArray, List.set_cons_zero, List.set_cons_succ, Nat.reduceAdd, d10, d15] at hK ⊢
      go_simp
      exact hK.out _ _ (Kp.refl _) rfl
     case sd17 =>
      intro x u hg hd K hK
      have d10 : (x 10) = .bool true := hd.1
      have d16 : (x 16) = .bool false := hd.2.1
      clear hd
      refine ⟨?_⟩
      simp only [putsFrom, Act.put, List.setIfInBounds_toArray, List.set_cons_zero, List.set_cons_succ, Nat.reduceAdd, d10, d16] at hK ⊢
      go_simp
      exact hK.out _ _ (Kp.refl _) rfl
     case sd18 =>
      intro x u hg hd K hK
      have d0 : (x 0) = .int .i64 (r : Int) := hd.1
      have d4 : (x 4) = .slice A3 N3 c3 := hd.2.1
      have d17 : (x 17) = .bool false := hd.2.2.1
      clear hd
      refine ⟨?_⟩
      simp only [putsFrom, Act.put, List.setIfInBounds_toArray, List.set_cons_zero, List.set_cons_succ, Nat.reduceAdd, d0, d4, d17] at hK ⊢
      go_simp
      exact hK.out _ _ (Kp.refl _) rfl
     intro x u hg he K hK
     have d0 : (x 0) = .int .i64 (r : Int) := he.1
     have d1 : (x 1) = .pointer (some ⟨fp, 0, none⟩) := he.2.1
     have d2 : (x 2) = .pointer (some ⟨fp, 0, none⟩) := he.2.2.1
     have d3 : (x 3) = .pointer (some ⟨fp, 1, none⟩) := he.2.2.2.1
     have d4 : (x 4) = .slice A3 N3 c3 := he.2.2.2.2.1
     have d5 : (x 5) = .pointer (some ⟨fp, 0, none⟩) := he.2.2.2.2.2.1
     have d6 : (x 6) = .pointer (some ⟨fp, 0, none⟩) := he.2.2.2.2.2.2.1
     have d7 : (x 7) = .pointer (some ⟨fp, 2, none⟩) := he.2.2.2.2.2.2.2.1
     have d8 : (x 8) = .bool false := he.2.2.2.2.2.2.2.2.1
     have d9 : (x 9) = .bool true := he.2.2.2.2.2.2.2.2.2.1
     have d10 : (x 10) = .bool true := he.2.2.2.2.2.2.2.2.2.2.1
     have d11 : (x 11) = .pointer (some ⟨fp, 0, none⟩) := he.2.2.2.2.2.2.2.2.2.2.2.1
     have d12 : (x 12) = .pointer (some ⟨fp, 0, none⟩) := he.2.2.2.2.2.2.2.2.2.2.2.2.1
     have d13 : (x 13) = .pointer (some ⟨fp, 1, none⟩) := he.2.2.2.2.2.2.2.2.2.2.2.2.2.1
     have d14 : (x 14) = .slice A3 N3 c3 := he.2.2.2.2.2.2.2.2.2.2.2.2.2.2.1
     have d15 : (x 15) = .int .i64 (N3 : Int) := he.2.2.2.2.2.2.2.2.2.2.2.2.2.2.2.1
     have d16 : (x 16) = .bool false := he.2.2.2.2.2.2.2.2.2.2.2.2.2.2.2.2.1
     have d17 : (x 17) = .bool false := he.2.2.2.2.2.2.2.2.2.2.2.2.2.2.2.2.2.1
     have d18 : (x 18) = .agg #[.int .i64 (r : Int), .slice A3 N3 c3, .bool false] := he.2.2.2.2.2.2.2.2.2.2.2.2.2.2.2.2.2.2.1
     clear he
     have hbu := (hg.block _ (blk_lt HB.out)).trans HB.out
     have z0 := blk_free (o := 0) hbu
     have z1 := blk_free (o := 1) hbu
     have z2 := blk_free (o := 2) hbu
     have y0 := blk_cell (o := 0) hbu rfl
     have y1 := blk_cell (o := 1) hbu rfl
     have y2 := blk_cell (o := 2) hbu rfl
     have HG := hid hg
     clear hbu
     refine ⟨?_⟩
     simp only [putsFrom, Act.put, List.setIfInBounds_toArray, List.set_cons_zero, List.set_cons_succ, Nat.reduceAdd, d0, d1, d2, d3, d4, d5, d6, d7, d8, d9, d10, d11, d12, d13, d14, d15, d16, d17, d18] at hK ⊢
     go_simp
     refine hK.out undef _ ⟨?_⟩
     clear hK
     clear d0 d1 d2 d3 d4 d5 d6 d7 d8 d9 d10 d11 d12 d13 d14 d15 d16 d17 d18
     go_wp2
     obtain ⟨z9, hr9, hk9⟩ := plan_end (i := r) (o := false) (w := w) HC.out.kp HG.out (Nat.le_refl _) HB.out HOW.out
     have z0 := blk_cell (o := 0) z9 rfl
     have z1 := blk_cell (o := 1) z9 rfl
     have z2 := blk_cell (o := 2) z9 rfl
     refine bodyPost_ret (v := .agg #[.int .i64 (r : Int), .slice A3 N3 c3, .bool false]) (by simp [results, Try.results12, go_sem, z0, z1, z2]) rfl ?_
     refine ⟨⟨_, ?_, hr9⟩, hk9⟩
     rw [show (planM b ks).opn = false by simp [planM, HLP.out, HN3.out, HLE.out]]
def CePl (base : Nat) (w : World) (cs : List Value) (p : PlM) : Prop := ∃ sv, cs = [.int .i64 (p.node : Int), sv, .bool p.opn] ∧ OwnN w base sv p.sites
theorem CePl.kp {base : Nat} : ElKp (CePl base) := fun _ _ _ _ hk ⟨sv, h, h0⟩ => ⟨sv, h, h0.kp hk⟩
theorem CePl.touch {base : Nat} {w w' : World} (ht : Touch 33 w w') : ∀ cs p, CePl base w cs p → CePl base w' cs p := fun _ _ ⟨sv, h, h0⟩ => ⟨sv, h, ownsRow_touch (by decide) h0 ht⟩
theorem elPlan : El Try.prog 28 33 (.agg #[.int .i64 0, .slice none 0 0, .bool false]) 3 40 := El.mk_ Try.underlying28 (by kernel_rfl) rfl (by omega)
end Go.Proofs.Ytcjgagmcnmmfoaa.Pa

namespace Go.Proofs.Ytcjgagmcnmmfoaa.Pa
open Go.RowKit

def GoodC (w : World) (v : Value) : Prop := ∀ u, Kp w u → Calls Try.prog 11 #[v] u fun e u' => e = .returned (.bool true) ∧ Kp u u'
theorem own_base {w : World} {B B' : Nat} {v : Value} {l : List Nat} (hb : B ≤ B') (h : OwnN w B' v l) : OwnN w B v l := by
 refine ⟨h.1, ?_⟩
 rcases h.2 with h | ⟨g, cap, cur, h1, h2, h3⟩
 ·exact .inl h
 ·exact .inr ⟨g, cap, cur, h1, Nat.le_trans hb h2, h3⟩
theorem sites_2 {L : List NodeM} {w : World} {v : Value} {b : Nat} {n : Int} {s ty : ByteArray} {ks : List T} (hT : RdL CeNode 5 w v L) (hL : L.length ≤ 4000) (hroot : L[b + sizeL ks]? = some ⟨2, s, ty, n, rootsL b ks⟩) (hsub : Sub L b (flatL b ks)) (hgood : GoodC w v) :
  Calls Try.prog 6 #[v, .int .i64 ((b + sizeL ks : Nat) : Int)] w fun e w' => (∃ sv, e = .returned (.tuple #[.agg #[.int .i64 ((b + sizeL ks : Nat) : Int), sv, .bool (planM b ks).opn], .int .i64 0]) ∧ OwnN w' w.heap.size sv (ownF b ks)) ∧ Kp w w' := by
 have HPL := hid fun (u : World) (hu : Kp w u) => plan_any (hT.kp CeNode.kp hu) hL hroot hsub
 have HGD := hid hgood
 obtain ⟨A, c, rfl, _⟩ := hT.form
 obtain ⟨bt, off, rfl, hbt, lk, g0, _⟩ := at_node hT hroot
 have hsz := (List.getElem?_eq_some_iff.1 hroot).1
 have i1 : (((b + sizeL ks : Nat)) : Int) < (L.length : Int) := by omega
 have i2 : ¬ (L.length : Int) ≤ (((b + sizeL ks : Nat)) : Int) := by omega
 have i3 : ¬ (((b + sizeL ks : Nat)) : Int) < 0 := by omega
 dsimp only at g0
 clear hroot hsub hT hL hsz hgood
 generalize (planM b ks).opn = o at HPL ⊢
 generalize b + sizeL ks = r at HPL i1 i2 i3 g0 ⊢
 go_enter Try.func6, Try.ntmps6
 go_upto_region 1 with fail
 have hrp := blk_new w (.cells #[.int .i64 0, .slice none 0 0, .bool false] 33)
 have hkw := (Kp.refl w).alloc (.cells #[.int .i64 0, .slice none 0 0, .bool false] 33)
 generalize w.alloc _ = W at hrp hkw ⊢
 have HRP := hid hrp; have HKW := hid hkw
 clear hrp hkw
 go_upto_region 5 with (go_at_call 11; go_must (refine (HGD.out _ HKW.out).mono ?_); rintro e w1 ⟨rfl, hk1⟩; have HK1 := hid hk1; have g0 := cell_kp (HKW.out.trans hk1) hbt g0; clear hk1)
 clear g0 i1 i2 i3
 go_wp2_with (go_at_call 12; go_must (refine (HPL.out _ (HKW.out.trans HK1.out)).mono ?_); rintro e w2 ⟨⟨sv, rfl, hr2⟩, hk2⟩; obtain ⟨A3, c3, rfl⟩ := own_form hr2; have hb2 := (hk2.block _ (blk_lt ((HK1.out.block _ (blk_lt HRP.out)).trans HRP.out))).trans ((HK1.out.block _ (blk_lt HRP.out)).trans HRP.out); have z0 := blk_free (o := 0) hb2; have z1 := blk_free (o := 1) hb2; have z2 := blk_free (o := 2) hb2; have x0 := blk_cell (o := 0) hb2 rfl; have x1 := blk_cell (o := 1) hb2 rfl; have x2 := blk_cell (o := 2) hb2 rfl; have HR2 := hid hr2; have HK2 := hid hk2; have HB2 := hid hb2; clear hr2 hk2 hb2)
 have hkk := (HKW.out.trans HK1.out).trans HK2.out
 obtain ⟨z9, hr9, hk9⟩ := plan_end (i := r) (o := o) (w := w) (wr := w2) (u := w2) (rp := w.heap.size) hkk (Kp.refl _) (Nat.le_refl _) HB2.out (own_base (HKW.out.trans HK1.out).le HR2.out)
 have y0 := blk_cell (o := 0) z9 rfl
 have y1 := blk_cell (o := 1) z9 rfl
 have y2 := blk_cell (o := 2) z9 rfl
 try simp only [Exit.inBlock, Exit.then]
 refine bodyPost_ret (v := .tuple #[.agg #[.int .i64 (r : Int), .slice A3 (ownF b ks).length c3, .bool o], .int .i64 0]) (by simp [results, Try.results6, go_sem, y0, y1, y2]) rfl ?_
 exact ⟨⟨_, rfl, hr9⟩, hk9⟩
theorem sites_33 {L : List NodeM} {w : World} {v : Value} {b : Nat} {n : Int} {s ty : ByteArray} {ks : List T} (hT : RdL CeNode 5 w v L) (hL : L.length ≤ 4000) (hroot : L[b + sizeL ks]? = some ⟨33, s, ty, n, rootsL b ks⟩) (hsub : Sub L b (flatL b ks)) (hgood : GoodC w v) :
  Calls Try.prog 6 #[v, .int .i64 ((b + sizeL ks : Nat) : Int)] w fun e w' => (∃ sv, e = .returned (.tuple #[.agg #[.int .i64 ((b + sizeL ks : Nat) : Int), sv, .bool (planM b ks).opn], .int .i64 0]) ∧ OwnN w' w.heap.size sv (ownF b ks)) ∧ Kp w w' := by
 have HPL := hid fun (u : World) (hu : Kp w u) => plan_any (hT.kp CeNode.kp hu) hL hroot hsub
 have HGD := hid hgood
 obtain ⟨A, c, rfl, _⟩ := hT.form
 obtain ⟨bt, off, rfl, hbt, lk, g0, _⟩ := at_node hT hroot
 have hsz := (List.getElem?_eq_some_iff.1 hroot).1
 have i1 : (((b + sizeL ks : Nat)) : Int) < (L.length : Int) := by omega
 have i2 : ¬ (L.length : Int) ≤ (((b + sizeL ks : Nat)) : Int) := by omega
 have i3 : ¬ (((b + sizeL ks : Nat)) : Int) < 0 := by omega
 dsimp only at g0
 clear hroot hsub hT hL hsz hgood
 generalize (planM b ks).opn = o at HPL ⊢
 generalize b + sizeL ks = r at HPL i1 i2 i3 g0 ⊢
 go_enter Try.func6, Try.ntmps6
 go_upto_region 1 with fail
 have hrp := blk_new w (.cells #[.int .i64 0, .slice none 0 0, .bool false] 33)
 have hkw := (Kp.refl w).alloc (.cells #[.int .i64 0, .slice none 0 0, .bool false] 33)
 generalize w.alloc _ = W at hrp hkw ⊢
 have HRP := hid hrp; have HKW := hid hkw
 clear hrp hkw
 go_upto_region 5 with (go_at_call 11; go_must (refine (HGD.out _ HKW.out).mono ?_); rintro e w1 ⟨rfl, hk1⟩; have HK1 := hid hk1; have g0 := cell_kp (HKW.out.trans hk1) hbt g0; clear hk1)
 clear g0 i1 i2 i3
 go_wp2_with (go_at_call 12; go_must (refine (HPL.out _ (HKW.out.trans HK1.out)).mono ?_); rintro e w2 ⟨⟨sv, rfl, hr2⟩, hk2⟩; obtain ⟨A3, c3, rfl⟩ := own_form hr2; have hb2 := (hk2.block _ (blk_lt ((HK1.out.block _ (blk_lt HRP.out)).trans HRP.out))).trans ((HK1.out.block _ (blk_lt HRP.out)).trans HRP.out); have z0 := blk_free (o := 0) hb2; have z1 := blk_free (o := 1) hb2; have z2 := blk_free (o := 2) hb2; have x0 := blk_cell (o := 0) hb2 rfl; have x1 := blk_cell (o := 1) hb2 rfl; have x2 := blk_cell (o := 2) hb2 rfl; have HR2 := hid hr2; have HK2 := hid hk2; have HB2 := hid hb2; clear hr2 hk2 hb2)
 have hkk := (HKW.out.trans HK1.out).trans HK2.out
 obtain ⟨z9, hr9, hk9⟩ := plan_end (i := r) (o := o) (w := w) (wr := w2) (u := w2) (rp := w.heap.size) hkk (Kp.refl _) (Nat.le_refl _) HB2.out (own_base (HKW.out.trans HK1.out).le HR2.out)
 have y0 := blk_cell (o := 0) z9 rfl
 have y1 := blk_cell (o := 1) z9 rfl
 have y2 := blk_cell (o := 2) z9 rfl
 try simp only [Exit.inBlock, Exit.then]
 refine bodyPost_ret (v := .tuple #[.agg #[.int .i64 (r : Int), .slice A3 (ownF b ks).length c3, .bool o], .int .i64 0]) (by simp [results, Try.results6, go_sem, y0, y1, y2]) rfl ?_
 exact ⟨⟨_, rfl, hr9⟩, hk9⟩
theorem plans_take {P : List (Option PlM)} {i : Nat} {o : Option PlM} (h : P[i]? = some o) : plansOf (P.take (i + 1)) = plansOf (P.take i) ++ plansOf [o] := by
 rw [List.take_add_one, h, plansOf_app]; rfl
theorem plans_bd {P : List (Option PlM)} {i : Nat} (h : i ≤ 4000) : (plansOf (P.take i)).length + 1 ≤ maxLen ∧ ((plansOf (P.take i)).length + 1) * 40 ≤ 140737488355328 := by
 have h1 : (plansOf (P.take i)).length ≤ (P.take i).length := List.length_filterMap_le _ _
 have h2 : (P.take i).length ≤ i := by simp; omega
 unfold maxLen; omega
theorem plans_any {w : World} {v : Value} {t : T} (hT : RdL CeNode 5 w v (flat 0 t)) (hL : sizeT t ≤ 4000) (hgood : GoodC w v) :
  Calls Try.prog 5 #[v] w fun e w' => (∃ lv, e = .returned (.tuple #[lv, .int .i64 0]) ∧ OwnL (CePl w.heap.size) 3 33 w' w.heap.size lv (plansOf (flatP 0 t))) ∧ Kp w w' := by
 have hsub : Sub (flat 0 t) 0 (flat 0 t) := fun i m h => by rw [Nat.zero_add]; exact h
 have HPA := hid (plan_at (L := flat 0 t) (sizeT t) t (Nat.le_refl _) 0 hsub)
 have hlen := flat_len 0 t
 have hlp := flatP_len 0 t
 obtain ⟨A, c, rfl, _⟩ := hT.form
 generalize flat 0 t = L at hT HPA hlen hgood ⊢
 generalize flatP 0 t = P at HPA hlp ⊢
 have HT := hid hT
 have HL := hid (show L.length ≤ 4000 by omega)
 have HLP := hid (show P.length = L.length by omega)
 have HGD := hid hgood
 clear hT hL hgood hsub hlen hlp
 go_enter Try.func5, Try.ntmps5
 go_wp2_with (go_at_call 11; go_must (refine (HGD.out _ (Kp.refl _)).mono ?_); rintro e w1 ⟨rfl, hk1⟩)
 go_loopw [4, 12] (fun lv x wr => ∃ (i : Nat) (Al : Option Addr) (cl : Nat), i ≤ L.length ∧ x = .int .i64 (i : Int) ∧ lv = .slice Al (plansOf (P.take i)).length cl ∧ OwnL (CePl w.heap.size) 3 33 wr w.heap.size (.slice Al (plansOf (P.take i)).length cl) (plansOf (P.take i)) ∧ Kp w wr) (fun _ x _ => L.length - (intOf x).toNat)
 case atStart => exact ⟨0, none, 0, Nat.zero_le _, rfl, rfl, OwnL.nil _ _ _ _ _, hk1⟩
 case round =>
  obtain ⟨i, Al, cl, hi, rfl, rfl, how, hk⟩ := hrel
  clear hk1
  have HOW := hid how; have HK := hid hk
  by_cases hl : i < L.length
  ·have i1 : (i : Int) < (L.length : Int) := by omega
   have HLT := hid hl
   obtain ⟨m, hm⟩ : ∃ m, L[i]? = some m := ⟨_, List.getElem?_eq_getElem hl⟩
   obtain ⟨b', k, s, ty, n, ks, rfl, hsb, hib, hP⟩ := HPA.out i m hm
   have HP := hid hP
   rw [Nat.zero_add] at hib
   have HI := hid hib
   have HTK := hid (plans_take hP)
   have HBD := hid (plans_bd (P := P) (i := i) (by have := HL.out; omega))
   have hT' := HT.out.kp CeNode.kp hk
   have hroot : L[b' + sizeL ks]? = some ⟨k, s, ty, n, rootsL b' ks⟩ := by rw [← hib]; exact hm
   have HPL := hid fun (u : World) (hu : Kp w u) => plan_any (HT.out.kp CeNode.kp hu) HL.out hroot hsb
   rw [← hib] at HPL
   obtain ⟨bt, off, rfl, hbt, lk, g0, g1, g2, g3, g4, _, _, _, _, rk, _⟩ := at_node hT' hm
   obtain ⟨Ak, ck, rfl⟩ := rk.form
   have k1 : IntKind.i64.wrap ((i : Int) + 1) = ((i + 1 : Nat) : Int) := by rw [IntKind.wrap_i64]; have := HL.out; omega
   have HK1 := hid k1
   dsimp only at g0 g1 g2 g3 g4
   clear hi hl hm hT' rk hk k1 hsb hib hP hroot how
   go_upto_region 7 with fail
   have hnp := blk_new wr (.cells #[.int .i64 k, .string s, .string ty, .int .i64 n, .slice Ak (rootsL b' ks).length ck] 37)
   have hkw := (Kp.refl wr).alloc (.cells #[.int .i64 k, .string s, .string ty, .int .i64 n, .slice Ak (rootsL b' ks).length ck] 37)
   have HKA := hid hkw
   have HKK := hid (HK.out.trans hkw)
   generalize wr.alloc _ = W at hnp HKA HKK ⊢
   have n0 := blk_cell (o := 0) hnp rfl
   clear g0 g1 g2 g3 g4 hnp hkw i1
   by_cases h2 : k = 2
   ·have PP : isFn k := .inr h2
    obtain rfl : k = 2 := h2
    have HX2 := HP.out
    go_upto_region 8 with fail
    clear n0
    obtain ⟨xs, hx, hch⟩ := HOW.out
    have HX := hid hx; have HCH := hid hch
    clear hx hch
    go_upto_region 9 with (first | (go_at_call 12; go_must (refine (HPL.out _ HKK.out).mono ?_); rintro e w2 ⟨⟨sv, rfl, hr2⟩, hk2⟩; obtain ⟨A3, c3, rfl⟩ := own_form hr2; have HR2 := hid hr2; have HK2 := hid hk2; have HX3 := hid (ownsRow_keep HX.out (HKA.out.trans hk2)); have HGE := hid (HKK.out.trans hk2).le; clear hr2 hk2) | (at_builtin; go_must (refine app_lit_at w2.heap.size ?r0 elPlan ?r1 (.tmp 25) (.tmp 29) ?r2 (base := w.heap.size) HX3.out ?r3 #[.int .i64 (i : Int), .slice A3 (ownF b' ks).length c3, .bool (planM b' ks).opn] 33 1 1 ?r4 ?r5 ?r6 ?r7 ?r8 HGE.out ?r9)))
    try (case r0 => rfl)
    try (case r1 => rfl)
    try (case r2 => rfl)
    try (case r3 => rfl)
    try (case r4 => rfl)
    try (case r5 => rfl)
    case r6 => first | rfl | exact ⟨rfl, rfl, rfl⟩ | exact ⟨rfl, rfl⟩ | (intro u hu; simp at hu; rcases hu with rfl | rfl | rfl <;> rfl)
    case r7 => exact HBD.out.1
    case r8 => exact HBD.out.2
    case r9 =>
     intro v6 w6 o6 g6 m6 b6
     have ht6 := Touch.of_grown HX3.out g6
     have hel : CePl w.heap.size w6 [.int .i64 (i : Int), .slice A3 (ownF b' ks).length c3, .bool (planM b' ks).opn] (planM b' ks) := CePl.touch ht6 _ _ ⟨_, by rw [HI.out]; rfl, own_base HKK.out.le HR2.out⟩
     have HO6 := hid (OwnL.snoc rfl ((HCH.out.kp CePl.kp (HKA.out.trans HK2.out))) (CePl.touch ht6) hel rfl o6)
     have HK6 := hid (Below.trans (HKK.out.trans HK2.out) b6)
     obtain ⟨A6, c6, rfl⟩ := own_form o6
     have k1 := HK1.out
     clear o6 g6 m6 b6 ht6 hel HX HX3 HCH
     go_wp2
     refine ⟨⟨i + 1, A6, c6, HLT.out, rfl, ?_, ?_, HK6.out⟩, meas_up HLT.out⟩
     ·rw [HTK.out, show plansOf [if isFn 2 then some (planM b' ks) else none] = [planM b' ks] by rw [if_pos PP]; rfl]
      simp
     ·rw [HTK.out, show plansOf [if isFn 2 then some (planM b' ks) else none] = [planM b' ks] by rw [if_pos PP]; rfl]
      simpa using HO6.out
   by_cases h33 : k = 33
   ·have PP : isFn k := .inl h33
    obtain rfl : k = 33 := h33
    have HX2 := HP.out
    go_upto_region 8 with fail
    clear n0
    obtain ⟨xs, hx, hch⟩ := HOW.out
    have HX := hid hx; have HCH := hid hch
    clear hx hch
    go_upto_region 9 with (first | (go_at_call 12; go_must (refine (HPL.out _ HKK.out).mono ?_); rintro e w2 ⟨⟨sv, rfl, hr2⟩, hk2⟩; obtain ⟨A3, c3, rfl⟩ := own_form hr2; have HR2 := hid hr2; have HK2 := hid hk2; have HX3 := hid (ownsRow_keep HX.out (HKA.out.trans hk2)); have HGE := hid (HKK.out.trans hk2).le; clear hr2 hk2) | (at_builtin; go_must (refine app_lit_at w2.heap.size ?r0 elPlan ?r1 (.tmp 25) (.tmp 29) ?r2 (base := w.heap.size) HX3.out ?r3 #[.int .i64 (i : Int), .slice A3 (ownF b' ks).length c3, .bool (planM b' ks).opn] 33 1 1 ?r4 ?r5 ?r6 ?r7 ?r8 HGE.out ?r9)))
    try (case r0 => rfl)
    try (case r1 => rfl)
    try (case r2 => rfl)
    try (case r3 => rfl)
    try (case r4 => rfl)
    try (case r5 => rfl)
    case r6 => first | rfl | exact ⟨rfl, rfl, rfl⟩ | exact ⟨rfl, rfl⟩ | (intro u hu; simp at hu; rcases hu with rfl | rfl | rfl <;> rfl)
    case r7 => exact HBD.out.1
    case r8 => exact HBD.out.2
    case r9 =>
     intro v6 w6 o6 g6 m6 b6
     have ht6 := Touch.of_grown HX3.out g6
     have hel : CePl w.heap.size w6 [.int .i64 (i : Int), .slice A3 (ownF b' ks).length c3, .bool (planM b' ks).opn] (planM b' ks) := CePl.touch ht6 _ _ ⟨_, by rw [HI.out]; rfl, own_base HKK.out.le HR2.out⟩
     have HO6 := hid (OwnL.snoc rfl ((HCH.out.kp CePl.kp (HKA.out.trans HK2.out))) (CePl.touch ht6) hel rfl o6)
     have HK6 := hid (Below.trans (HKK.out.trans HK2.out) b6)
     obtain ⟨A6, c6, rfl⟩ := own_form o6
     have k1 := HK1.out
     clear o6 g6 m6 b6 ht6 hel HX HX3 HCH
     go_wp2
     refine ⟨⟨i + 1, A6, c6, HLT.out, rfl, ?_, ?_, HK6.out⟩, meas_up HLT.out⟩
     ·rw [HTK.out, show plansOf [if isFn 33 then some (planM b' ks) else none] = [planM b' ks] by rw [if_pos PP]; rfl]
      simp
     ·rw [HTK.out, show plansOf [if isFn 33 then some (planM b' ks) else none] = [planM b' ks] by rw [if_pos PP]; rfl]
      simpa using HO6.out
   have a2 : (k == 2) = false := beq_eq_false_iff_ne.2 h2
   have a33 : (k == 33) = false := beq_eq_false_iff_ne.2 h33
   have PP : ¬ isFn k := by unfold isFn; omega
   have k1 := HK1.out
   go_wp2
   refine ⟨⟨i + 1, Al, cl, HLT.out, rfl, ?_, ?_, HKK.out⟩, meas_up HLT.out⟩
   ·rw [HTK.out, if_neg PP]; simp [plansOf]
   ·rw [HTK.out, if_neg PP]
    have h := HOW.out.kp CePl.kp HKA.out
    simpa [plansOf] using h
  ·have i1 : ¬ (i : Int) < (L.length : Int) := by omega
   have HE := hid (show P.take i = P by rw [List.take_of_length_le]; have := HLP.out; omega)
   clear hi hl hk how
   go_wp2
   go_ret2
   refine ⟨⟨_, rfl, ?_⟩, HK.out⟩
   have h := HOW.out
   rw [HE.out] at h
   rw [HE.out]
   exact h
end Go.Proofs.Ytcjgagmcnmmfoaa.Pa

namespace Go.Proofs.Ytcjgagmcnmmfoaa.Pa
open Go.RowKit

structure PlF (L : List NodeM) (P : List PlM) : Prop where
 at_ : ∀ (i : Nat) (p : PlM), P[i]? = some p → p.node < L.length ∧ p.sites.length ≤ 4000 ∧ (∀ k ∈ p.sites, k < p.node ∧ ∃ m, L[k]? = some m ∧ m.kind = 15) ∧ (p.opn = true → p.sites.length ≤ 8)
 sort : ∀ (i : Nat) (p q : PlM), P[i]? = some p → P[i + 1]? = some q → p.node < q.node
 nodup : (sitesOf P).Nodup
 cnt : (sitesOf P).length = c15 L
 len : L.length ≤ 4000
 bound : P.length ≤ 4000
 call : ∀ (i : Nat) (p : PlM), P[i]? = some p → ∃ b k n s ty ks, p = planM b ks ∧ isFn k ∧ L[b + sizeL ks]? = some ⟨k, s, ty, n, rootsL b ks⟩ ∧ Sub L b (flatL b ks)
theorem c15_le (l : List NodeM) : c15 l ≤ l.length := List.countP_le_length
theorem root_own {t : T} (h : Tre t) (b : Nat) : ownD b t = [] := by
 obtain ⟨h1, h2, _⟩ := h
 cases h1 with
 | file ks h3 h4 => rw [ownD, if_neg (by decide), ownF_funs _ _ h4]; rfl
 | func k _ _ _ _ hk => rcases hk with ⟨rfl, _⟩ | ⟨rfl, _⟩ <;> cases h2
 | named _ _ _ hk _ _ => rcases hk with rfl | rfl <;> cases h2
 | calls _ _ hk _ _ => rcases hk with rfl | rfl <;> cases h2
 | bare _ hk => rcases hk with rfl | rfl | rfl | rfl | rfl <;> cases h2
 | _ => cases h2
theorem plans_index {P : List (Option PlM)} {p : PlM} (h : p ∈ plansOf P) : ∃ i : Nat, P[i]? = some (some p) := by
 unfold plansOf at h
 rw [List.mem_filterMap] at h
 obtain ⟨o, h1, h2⟩ := h
 obtain ⟨i, hi⟩ := List.mem_iff_getElem?.1 h1
 exact ⟨i, by rw [hi]; exact congrArg some h2⟩
theorem sites_next {P : List PlM} {i : Nat} {p : PlM} (h : P[i]? = some p) : sitesOf (P.take (i + 1)) = sitesOf (P.take i) ++ p.sites := by
 rw [List.take_add_one, h, sitesOf_app]
 simp [sitesOf]
theorem site_new {P : List PlM} {i j k : Nat} {p : PlM} (hn : (sitesOf P).Nodup) (hp : P[i]? = some p) (hk : p.sites[j]? = some k) : k ∉ sitesOf (P.take i) ++ p.sites.take j := by
 obtain ⟨hil, rfl⟩ := List.getElem?_eq_some_iff.1 hp
 obtain ⟨hjl, rfl⟩ := List.getElem?_eq_some_iff.1 hk
 intro hm
 have e1 : P = P.take i ++ P[i] :: P.drop (i + 1) := by simp
 have e2 : P[i].sites = P[i].sites.take j ++ P[i].sites[j] :: P[i].sites.drop (j + 1) := by simp
 have e5 : ∀ (P Q K D R : List Nat) (x : Nat), K = P ++ x :: D → Q ++ (K ++ R) = (Q ++ P) ++ x :: (D ++ R) := by intro P Q K D R x h; subst h; simp
 have e3 : sitesOf P = (sitesOf (P.take i) ++ P[i].sites.take j) ++ P[i].sites[j] :: (P[i].sites.drop (j + 1) ++ sitesOf (P.drop (i + 1))) := by
  conv => lhs; rw [e1, sitesOf_app]
  rw [show ∀ (x : PlM) (l : List PlM), sitesOf (x :: l) = x.sites ++ sitesOf l from fun x l => by simp [sitesOf]]
  exact e5 _ _ _ _ _ _ e2
 rw [e3, List.nodup_append] at hn
 exact hn.2.2 _ hm _ (by simp) rfl
theorem c15_next {L : List NodeM} {i : Nat} {m : NodeM} (h : L[i]? = some m) : c15 (L.take (i + 1)) = c15 (L.take i) + (if m.kind = 15 then 1 else 0) := by
 rw [List.take_add_one, h, c15_app]
 by_cases hk : m.kind = 15 <;> simp [c15, hk]
theorem c15_take (L : List NodeM) (i : Nat) : c15 (L.take i) ≤ c15 L := by
 have e : L = L.take i ++ L.drop i := by simp
 have := congrArg c15 e
 rw [c15_app] at this
 omega
theorem sites_take (P : List PlM) (i : Nat) : (sitesOf (P.take i)).length ≤ (sitesOf P).length := by
 have e : P = P.take i ++ P.drop i := by simp
 have := congrArg sitesOf e
 rw [sitesOf_app] at this
 have := congrArg List.length this
 rw [List.length_append] at this
 omega

theorem pl_facts {t : T} (h : Tre t) : PlF (flat 0 t) (plansOf (flatP 0 t)) := by
 have hsub : Sub (flat 0 t) 0 (flat 0 t) := fun i m h => by rw [Nat.zero_add]; exact h
 obtain ⟨h1, h2⟩ := plans_sort 0 t
 have hperm := all15_perm 0 t
 rw [root_own h 0, List.nil_append] at hperm
 have hso := (all15_sort 0 t).1
 have hnd : (all15 0 t).Nodup := hso.imp fun h => Nat.ne_of_lt h
 have hsz := h.size
 have hcl := c15_le (flat 0 t)
 rw [flat_len] at hcl
 have hct := all15_cnt 0 t
 have hln := hperm.length_eq
 refine ⟨fun i p hi => ?_, fun i p q hi hj => ?_, (hperm.nodup_iff).1 hnd, by rw [← hln, hct], by rw [flat_len]; exact hsz, ?_, fun i p hi => ?_⟩
 ·have hm : p ∈ plansOf (flatP 0 t) := List.mem_of_getElem? hi
  obtain ⟨g1, g2, g3, g4⟩ := h2 p hm
  refine ⟨by rw [flat_len]; omega, ?_, fun k hk => ⟨(g3 k hk).1, ?_⟩, g4⟩
  ·have hs : (p.sites).length ≤ (sitesOf (plansOf (flatP 0 t))).length := by
    have q1 := sites_take (plansOf (flatP 0 t)) (i + 1)
    rw [sites_next hi, List.length_append] at q1
    omega
   omega
  ·obtain ⟨m, e1, e2⟩ := all15_kind 0 t k (g3 k hk).2
   exact ⟨m, by simpa using e1, e2⟩
 ·obtain ⟨hil, rfl⟩ := List.getElem?_eq_some_iff.1 hi
  obtain ⟨hjl, rfl⟩ := List.getElem?_eq_some_iff.1 hj
  exact (List.pairwise_iff_getElem.1 h1) i (i + 1) hil hjl (Nat.lt_succ_self i)
 ·have h3 : (plansOf (flatP 0 t)).length ≤ (flatP 0 t).length := List.length_filterMap_le _ _
  rw [flatP_len] at h3
  omega
 ·obtain ⟨j, hj⟩ := plans_index (List.mem_of_getElem? hi)
  have hjl := (List.getElem?_eq_some_iff.1 hj).1
  rw [flatP_len] at hjl
  obtain ⟨m, hm⟩ : ∃ m, (flat 0 t)[j]? = some m := ⟨_, List.getElem?_eq_getElem (by rw [flat_len]; exact hjl)⟩
  obtain ⟨b', k, s, ty, n, ks, rfl, g2, g3, g4⟩ := plan_at (sizeT t) t (Nat.le_refl _) 0 hsub j m hm
  rw [hj] at g4
  injection g4 with g4
  split at g4
  ·injection g4 with g4
   rw [Nat.zero_add] at g3
   rw [g3] at hm
   exact ⟨b', k, n, s, ty, ks, g4, ‹_›, hm, g2⟩
  ·cases g4
def seenI (n : Nat) (S : List Nat) : List Value := (List.range n).map fun k => Value.int .i64 (if k ∈ S then 1 else 0)
theorem seenI_len (n : Nat) (S : List Nat) : (seenI n S).length = n := by simp [seenI]
theorem seenI_at {n k : Nat} {S : List Nat} (h : k < n) : (seenI n S)[k]? = some (.int .i64 (if k ∈ S then 1 else 0)) := by simp [seenI, h]
theorem seenI_set {n k : Nat} {S : List Nat} : (seenI n S).set k (.int .i64 1) = seenI n (S ++ [k]) := by
 apply List.ext_getElem?
 intro i
 rcases Nat.lt_or_ge i n with h | h
 ·rw [List.getElem?_set, seenI_at (n := n) (S := S ++ _) h, seenI_len]
  split
  ·rename_i e; subst e; rw [if_pos h]; simp
  ·rename_i e
   rw [seenI_at h]
   have : (i ∈ S ++ [k]) ↔ i ∈ S := by simp; intro e2; exact absurd e2.symm e
   simp only [this]
 ·rw [List.getElem?_eq_none (by rw [List.length_set, seenI_len]; exact h), List.getElem?_eq_none (by rw [seenI_len]; exact h)]
def SeenR (w : World) (base g n : Nat) (S : List Nat) : Prop := w.ownsRow base 3 1 (.slice (some ⟨g, 0, none⟩) n n) n (seenI n S)
theorem SeenR.kp {w w' : World} {base g n : Nat} {S : List Nat} (h : SeenR w base g n S) (hk : Kp w w') : SeenR w' base g n S := ownsRow_keep h hk
theorem SeenR.at_ {w : World} {base g n k : Nat} {S : List Nat} (h : SeenR w base g n S) (hk : k < n) (hS : k ∉ S) : w.cell? ⟨g, k, none⟩ = some (.int .i64 0) ∧ w.frozen? ⟨g, k, none⟩ = false := by
 obtain ⟨h1, h2⟩ := rowAt h (j := k) (by omega)
 exact ⟨by rw [h1, seenI_at hk, if_neg hS], h2⟩
theorem SeenR.set {w : World} {base g n k : Nat} {S : List Nat} (h : SeenR w base g n S) (hk : k < n) : SeenR (w.setCell ⟨g, k, none⟩ (.int .i64 1)) base g n (S ++ [k]) := by
 have := rowSet h (j := k) (by omega) (.int .i64 1)
 unfold SeenR
 rw [← seenI_set]; exact this
theorem SeenR.made (w : World) (n : Nat) (hn : n ≤ maxLen) : SeenR (w.alloc (.cells (madeCells #[.int .i64 0] n) 3)) w.heap.size w.heap.size n [] := by
 have e : madeCells #[.int .i64 0] n = (List.replicate n (Value.int .i64 0)).toArray := by
  apply Array.ext
  ·simp [madeCells]
  ·intro i h1 h2
   simp [madeCells, Nat.mod_one]
 have e2 : seenI n [] = List.replicate n (Value.int .i64 0) := by
  apply List.ext_getElem?
  intro i
  rcases Nat.lt_or_ge i n with h | h
  ·rw [seenI_at h, List.getElem?_replicate, if_pos h]; simp
  ·rw [List.getElem?_eq_none (by rw [seenI_len]; exact h), List.getElem?_eq_none (by simpa using h)]
 unfold SeenR
 rw [e, e2]
 refine ⟨by simp, .inr ⟨w.heap.size, n, (List.replicate n (Value.int .i64 0)).toArray, rfl, Nat.le_refl _, blk_new w _, by simp, hn, by simp, by simp⟩⟩
theorem plrow_at {B B' : Nat} {w : World} {A : Option Addr} {n c i : Nat} {P : List PlM} {p : PlM} (h : OwnL (CePl B) 3 33 w B' (.slice A n c) P) (hi : P[i]? = some p) (hl : p.sites.length ≤ 4000) (hb : ∀ k ∈ p.sites, k ≤ 4000) :
  ∃ b off A2 c2, A = some ⟨b, off, none⟩ ∧ b < w.heap.size ∧ w.cell? ⟨b, off + i * 3, none⟩ = some (.int .i64 (p.node : Int)) ∧ w.cell? ⟨b, off + i * 3 + 1, none⟩ = some (.slice A2 p.sites.length c2) ∧ w.cell? ⟨b, off + i * 3 + 2, none⟩ = some (.bool p.opn) ∧ RdInts w (.slice A2 p.sites.length c2) (natI p.sites) := by
 obtain ⟨b, off, cs, e1, e2, ⟨sv, rfl, h4⟩, _, h5⟩ := h.rd.at_ hi
 have hr := h4.rd (by omega) (fun x hx => by have := hb x hx; omega)
 obtain ⟨A2, c2, rfl⟩ := own_form h4
 exact ⟨b, off, A2, c2, e1, e2, h5 0 (by omega), h5 1 (by omega), h5 2 (by omega), hr⟩
theorem nat_at {w : World} {A : Option Addr} {n c j k : Nat} {l : List Nat} (h : RdInts w (.slice A n c) (natI l)) (hj : l[j]? = some k) : ∃ b off, A = some ⟨b, off, none⟩ ∧ b < w.heap.size ∧ w.cell? ⟨b, off + j, none⟩ = some (.int .i64 (k : Int)) :=
 ints_at h (by rw [natI, List.getElem?_map, hj]; rfl)
theorem sites_call {L : List NodeM} {w : World} {v : Value} {P : List PlM} {i : Nat} {p : PlM} (hT : RdL CeNode 5 w v L) (h : PlF L P) (hp : P[i]? = some p) (hgood : GoodC w v) :
  Calls Try.prog 6 #[v, .int .i64 (p.node : Int)] w fun e w' => (∃ A c, e = .returned (.tuple #[.agg #[.int .i64 (p.node : Int), .slice A p.sites.length c, .bool p.opn], .int .i64 0])) ∧ Kp w w' := by
 obtain ⟨b, k, n, s, ty, ks, rfl, hf, hr, hs⟩ := h.call i p hp
 have hc : Calls Try.prog 6 #[v, .int .i64 ((b + sizeL ks : Nat) : Int)] w fun e w' => (∃ sv, e = .returned (.tuple #[.agg #[.int .i64 ((b + sizeL ks : Nat) : Int), sv, .bool (planM b ks).opn], .int .i64 0]) ∧ OwnN w' w.heap.size sv (ownF b ks)) ∧ Kp w w' := by
  rcases hf with rfl | rfl
  ·exact sites_33 hT h.len hr hs hgood
  ·exact sites_2 hT h.len hr hs hgood
 refine hc.mono ?_
 rintro e w' ⟨⟨sv, rfl, ho⟩, hk⟩
 obtain ⟨A, c, rfl⟩ := own_form ho
 exact ⟨⟨A, c, rfl⟩, hk⟩
theorem one_pl {t : T} (h : oneOk t = true) : ∃ p, plansOf (flatP 0 t) = [p] ∧ p.sites.length = 1 := by
 unfold oneOk at h
 split at h
 ·rename_i p hp; exact ⟨p, hp, by simpa using h⟩
 ·cases h
end Go.Proofs.Ytcjgagmcnmmfoaa.Pa

