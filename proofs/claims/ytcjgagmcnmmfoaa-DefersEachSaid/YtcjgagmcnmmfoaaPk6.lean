/-
  Parts of the proof of a law: ParS, Rgt, Rgu. No condition.
-/
import Derived.Deep.QuietTactic
import Derived.BigQuiet
import Derived.Deep.DeepCutAuto
import Derived.Test.YtcjgagmcnmmfoaaPk2
import Derived.Test.YtcjgagmcnmmfoaaPk5
set_option maxRecDepth 20000
set_option maxHeartbeats 16000000
set_option linter.unusedVariables false
set_option linter.unusedSimpArgs false
namespace Go.Proofs.Ytcjgagmcnmmfoaa.Pa
open Go.RowKit

def okN (n : NodeM) : Prop := okI n.kind ∧ n.text.size ≤ 140737488351232 ∧ n.type_.size ≤ 140737488351232 ∧ okI n.num ∧ (∀ x ∈ n.kids, okI x) ∧ n.kids.length ≤ 100000
abbrev GNode := NodeM × Value
def CeG (base : Nat) (w : World) (cs : List Value) (p : GNode) : Prop := cs = [.int .i64 p.1.kind, .string p.1.text, .string p.1.type_, .int .i64 p.1.num, p.2] ∧ OwnI w base p.2 p.1.kids ∧ okN p.1
def gBlks (l : List GNode) : List Nat := l.filterMap (fun p => p.2.ownBlock)
theorem gBlks_app (a b : List GNode) : gBlks (a ++ b) = gBlks a ++ gBlks b := by simp [gBlks]
theorem CeG.kp {base : Nat} : ElKp (CeG base) := fun _ _ _ _ hk ⟨h, h0, h1⟩ => ⟨h, ownsRow_keep h0 hk, h1⟩
theorem CeG.ce {base : Nat} {w : World} {cs : List Value} {p : GNode} (h : CeG base w cs p) : CeNode w cs p.1 := by
 obtain ⟨h, h0, h1, h2, h3, h4, h5, h6⟩ := h
 exact ⟨p.2, h, h1, h2, h3, h4, h0.rd (by omega) h5, by omega⟩
def Pk (rp : Nat) (w w' : World) : Prop := Below rp w w' ∧ ∀ (k : Nat) (o : Obj), w.heap[k]? = some o → k ≠ rp → (∀ cs fr, o ≠ Obj.cells cs 37 fr) → w'.heap[k]? = some o
theorem Pk.refl (rp : Nat) (w : World) : Pk rp w w := ⟨Below.refl _ _, fun _ _ h _ _ => h⟩
theorem Pk.le {rp : Nat} {w w' : World} (h : Pk rp w w') : w.heap.size ≤ w'.heap.size := Below.size h.1
theorem Pk.trans {rp : Nat} {a b c : World} (h : Pk rp a b) (k : Pk rp b c) : Pk rp a c := ⟨Below.trans h.1 k.1, fun i o h1 h2 h3 => k.2 i o (h.2 i o h1 h2 h3) h2 h3⟩
theorem Pk.of_kp {rp : Nat} {w w' : World} (h : Kp w w') (hr : rp ≤ w.heap.size) : Pk rp w w' := ⟨Below.mono h hr, fun k o h1 _ _ => by rw [h.block k (blk_lt h1)]; exact h1⟩
theorem Pk.set {rp o : Nat} {w : World} (v : Value) : Pk rp w (w.setCell ⟨rp, o, none⟩ v) := ⟨(Below.refl _ _).setCell (p := ⟨rp, _, none⟩) (Nat.le_refl _) _, fun k o h1 h2 _ => (blk_far (p := ⟨rp, _, none⟩) h2 _).trans h1⟩
def Pkx (rp : Nat) (row : Option Nat) (w w' : World) : Prop := Below rp w w' ∧ ∀ (k : Nat) (o : Obj), w.heap[k]? = some o → k ≠ rp → some k ≠ row → (∀ cs fr, o ≠ Obj.cells cs 37 fr) → w'.heap[k]? = some o
theorem Pk.x {rp : Nat} {w w' : World} (h : Pk rp w w') (row : Option Nat) : Pkx rp row w w' := ⟨h.1, fun k o h1 h2 _ h3 => h.2 k o h1 h2 h3⟩
theorem Pkx.pk {rp B : Nat} {row : Option Nat} {w0 w w' : World} (h : Pk rp w0 w) (k : Pkx rp row w w') (hr : ∀ g, row = some g → w0.heap.size ≤ g) : Pk rp w0 w' :=
 ⟨Below.trans h.1 k.1, fun i o h1 h2 h3 => k.2 i o (h.2 i o h1 h2 h3) h2 (fun e => by have := hr i e.symm; have := blk_lt h1; omega) h3⟩
theorem own_pk {rp base : Nat} {w w' : World} {v : Value} {xs : List Int} (h : OwnI w base v xs) (hp : Pk rp w w') (hne : v.ownBlock ≠ some rp) : OwnI w' base v xs := by
 obtain ⟨h1, h2⟩ := h
 refine ⟨h1, ?_⟩
 rcases h2 with h2 | ⟨g, cap, cur, hv, hb, hg, r⟩
 ·exact .inl h2
 ·refine .inr ⟨g, cap, cur, hv, hb, hp.2 g _ hg (fun e => hne (by rw [hv, e]; rfl)) (fun cs fr e => by injection e with _ e _; exact absurd e (by decide)), r⟩
theorem own_ne {w : World} {rp base : Nat} {e T : TypeId} {size n : Nat} {v : Value} {xs : List Value} {cs : Array Value} (h : w.ownsRow base e size v n xs) (hr : w.heap[rp]? = some (.cells cs T (0, 0))) (hT : e ≠ T) : v.ownBlock ≠ some rp := by
 rcases h.2 with ⟨rfl, _⟩ | ⟨g, cap, cur, rfl, hb, hg, r⟩
 ·simp [Value.ownBlock]
 ·intro hc
  simp only [Value.ownBlock, Option.some.injEq] at hc
  subst hc
  rw [hr] at hg
  injection hg with hg
  injection hg with _ hg _
  exact hT hg.symm
def rdrC (lv : Value) (n : Nat) (tv : Value) : Array Value := #[lv, .int .i64 (n : Int), tv]
structure Prs (w : World) (rp : Nat) (L : List TokenM) (l : List Tk) (ps : List GNode) (s : Nat) (lv tv : Value) (n : Nat) : Prop where
 blk : w.heap[rp]? = some (.cells (rdrC lv n tv) 47 (0, 0))
 toks : ∃ w0 : World, w0.heap.size ≤ rp ∧ RdL CeToken 4 w0 lv L ∧ Below rp w0 w
 tree : OwnL (CeG rp) 5 37 w rp tv ps
 here : n + l.length = L.length
 rest : (L.drop n).map tkOf = l
 nd : (gBlks ps).Nodup
 bd : ps.length + 2 * l.length + s ≤ 4001
 lt : L.length ≤ 2000
def PrsE (w : World) (rp : Nat) (L : List TokenM) (l : List Tk) (ps : List GNode) (s : Nat) : Prop := ∃ lv tv n, Prs w rp L l ps s lv tv n
def PrsV (w : World) (rp : Nat) (L : List TokenM) (l : List Tk) (ps : List GNode) (s : Nat) (lv tv : Value) : Prop := ∃ n, Prs w rp L l ps s lv tv n
theorem PrsV.e {w : World} {rp : Nat} {L : List TokenM} {l : List Tk} {ps : List GNode} {s : Nat} {lv tv : Value} (h : PrsV w rp L l ps s lv tv) : PrsE w rp L l ps s := ⟨lv, tv, h⟩
theorem Pk.of_grown {rp : Nat} {w w' : World} (h : w.grownBy w' (some rp)) (hr : rp ≤ w.heap.size) : Pk rp w w' := ⟨(Below.refl _ _).grown h hr (fun k hk => by injection hk with hk; omega), fun k o h1 h2 _ => grown_blk h h1 (fun e => by injection e with e; exact h2 e)⟩
section
variable {w w' : World} {rp : Nat} {L : List TokenM} {l : List Tk} {ps : List GNode} {s n : Nat} {lv tv : Value}
theorem Prs.kp (h : Prs w rp L l ps s lv tv n) (hk : Kp w w') : Prs w' rp L l ps s lv tv n :=
 ⟨(hk.block rp (blk_lt h.blk)).trans h.blk, by obtain ⟨w0, h1, h2, h3⟩ := h.toks; exact ⟨w0, h1, h2, Below.trans h3 (Below.mono hk (Nat.le_of_lt (blk_lt h.blk)))⟩, h.tree.kp CeG.kp hk, h.here, h.rest, h.nd, h.bd, h.lt⟩
theorem Prs.rp_lt (h : Prs w rp L l ps s lv tv n) : rp < w.heap.size := blk_lt h.blk
theorem Prs.le (h : Prs w rp L l ps s lv tv n) : rp ≤ w.heap.size := Nat.le_of_lt h.rp_lt
theorem Prs.c0 (h : Prs w rp L l ps s lv tv n) : w.cell? ⟨rp, 0, none⟩ = some lv := blk_cell h.blk rfl
theorem Prs.c1 (h : Prs w rp L l ps s lv tv n) : w.cell? ⟨rp, 1, none⟩ = some (.int .i64 (n : Int)) := blk_cell h.blk rfl
theorem Prs.c2 (h : Prs w rp L l ps s lv tv n) : w.cell? ⟨rp, 2, none⟩ = some tv := blk_cell h.blk rfl
theorem Prs.fz (h : Prs w rp L l ps s lv tv n) (o : Nat) : w.frozen? ⟨rp, o, none⟩ = false := blk_free h.blk
theorem Prs.n_le (h : Prs w rp L l ps s lv tv n) : n ≤ 2000 := by have := h.here; have := h.lt; omega
theorem Prs.lform (h : Prs w rp L l ps s lv tv n) : ∃ A c, lv = .slice A L.length c := by
 obtain ⟨w0, _, h2, _⟩ := h.toks
 obtain ⟨A, c, e, _⟩ := h2.form
 exact ⟨A, c, e⟩
theorem Prs.tform (h : Prs w rp L l ps s lv tv n) : ∃ A c, tv = .slice A ps.length c := by
 obtain ⟨A, c, e, _⟩ := (OwnL.rd h.tree).form
 exact ⟨A, c, e⟩
theorem Prs.kind (h : Prs w rp L l ps s lv tv n) : l = [] ↔ n = L.length := by
 have := h.here
 constructor
 ·rintro rfl; simpa using this
 ·intro e; exact List.eq_nil_of_length_eq_zero (by omega)
theorem Prs.tok {t : Tk} (h : Prs w rp L (t :: l) ps s lv tv n) : n < L.length ∧ ∃ b off c m, lv = .slice (some ⟨b, off, none⟩) L.length c ∧ b < rp ∧ b < w.heap.size ∧ L[n]? = some m ∧ tkOf m = t ∧ w.cell? ⟨b, off + n * 4, none⟩ = some (.int .i64 t.1) ∧ w.cell? ⟨b, off + n * 4 + 1, none⟩ = some (.string t.2) ∧ okI t.1 ∧ t.2.size ≤ 140737488351232 ∧ (L.drop (n + 1)).map tkOf = l := by
 have hn : n < L.length := by have := h.here; simp at this; omega
 obtain ⟨w0, h1, h2, h3⟩ := h.toks
 obtain ⟨A, c, e, hc⟩ := h2.form
 subst e
 have hr := h.rest
 rw [List.drop_eq_getElem_cons hn, List.map_cons] at hr
 injection hr with hr1 hr2
 obtain ⟨b, off, rfl, hb, g0, g1, _, _, k0, k1, _, _⟩ := at_token h2 (List.getElem?_eq_getElem hn)
 have hb2 : b < rp := Nat.lt_of_lt_of_le hb h1
 have hc2 := below_cells h3
 refine ⟨hn, b, off, c, L[n], rfl, hb2, Nat.lt_of_lt_of_le hb2 h.le, List.getElem?_eq_getElem hn, hr1, ?_, ?_, ?_, ?_, hr2⟩
 ·rw [hc2.1 _ _ hb2, g0, ← hr1]; rfl
 ·rw [hc2.1 _ _ hb2, g1, ← hr1]; rfl
 ·rw [← hr1]; exact k0
 ·rw [← hr1]; exact k1
theorem CeG.setr {base : Nat} {cs : List Value} {p : GNode} {T : TypeId} (h : CeG base w cs p) (ht : Touch T w w') (hn : 3 ≠ T) : CeG base w' cs p := ⟨h.1, ownsRow_touch hn h.2.1 ht, h.2.2⟩
theorem tree_touch {base : Nat} {T : TypeId} (h : OwnL (CeG base) 5 37 w base tv ps) (ht : Touch T w w') (hn : 3 ≠ T) (hn2 : 37 ≠ T) : OwnL (CeG base) 5 37 w' base tv ps := by
 obtain ⟨xs, h1, h2⟩ := h
 exact ⟨xs, ownsRow_touch hn2 h1 ht, Chunk.mono (fun _ _ h => h.setr ht hn) h2⟩
theorem Prs.adv {t : Tk} (h : Prs w rp L (t :: l) ps s lv tv n) : Prs (w.setCell ⟨rp, 1, none⟩ (.int .i64 ((n + 1 : Nat) : Int))) rp L l ps (s + 2) lv tv (n + 1) := by
 have ht := rowTouch (o := 1) h.blk (.int .i64 ((n + 1 : Nat) : Int))
 obtain ⟨w0, h1, h2, h3⟩ := h.toks
 obtain ⟨hn, _, _, _, _, _, _, _, _, _, _, _, _, _, hr⟩ := h.tok
 refine ⟨blk_set h.blk _, ⟨w0, h1, h2, h3.setCell (Nat.le_refl _) _⟩, tree_touch h.tree ht (by decide) (by decide), ?_, hr, h.nd, ?_, h.lt⟩
 ·have := h.here; simp at this ⊢; omega
 ·have := h.bd; simp at this; omega
end
theorem Prs.weak {w : World} {rp : Nat} {L : List TokenM} {l : List Tk} {ps : List GNode} {s s' n : Nat} {lv tv : Value} (h : Prs w rp L l ps s lv tv n) (hs : s' ≤ s) : Prs w rp L l ps s' lv tv n :=
 ⟨h.blk, h.toks, h.tree, h.here, h.rest, h.nd, by have := h.bd; omega, h.lt⟩
theorem PrsE.weak {w : World} {rp : Nat} {L : List TokenM} {l : List Tk} {ps : List GNode} {s s' : Nat} (h : PrsE w rp L l ps s) (hs : s' ≤ s) : PrsE w rp L l ps s' := by
 obtain ⟨lv, tv, n, h⟩ := h; exact ⟨lv, tv, n, h.weak hs⟩
theorem PrsE.kp {w w' : World} {rp : Nat} {L : List TokenM} {l : List Tk} {ps : List GNode} {s : Nat} (h : PrsE w rp L l ps s) (hk : Kp w w') : PrsE w' rp L l ps s := by
 obtain ⟨lv, tv, n, h⟩ := h; exact ⟨lv, tv, n, h.kp hk⟩
theorem PrsE.le {w : World} {rp : Nat} {L : List TokenM} {l : List Tk} {ps : List GNode} {s : Nat} (h : PrsE w rp L l ps s) : rp ≤ w.heap.size := by obtain ⟨_, _, _, h⟩ := h; exact h.le
theorem PrsE.bd {w : World} {rp : Nat} {L : List TokenM} {l : List Tk} {ps : List GNode} {s : Nat} (h : PrsE w rp L l ps s) : ps.length + 2 * l.length + s ≤ 4001 := by obtain ⟨_, _, _, h⟩ := h; exact h.bd
theorem PrsE.own_ne {w : World} {rp : Nat} {L : List TokenM} {l : List Tk} {ps : List GNode} {s base n : Nat} {size : Nat} {e : TypeId} {v : Value} {xs : List Value} (h : PrsE w rp L l ps s) (hT : e ≠ 47) (ho : w.ownsRow base e size v n xs) : v.ownBlock ≠ some rp := by
 obtain ⟨lv, tv, n, h⟩ := h
 exact Go.Proofs.Ytcjgagmcnmmfoaa.Pa.own_ne ho h.blk hT
structure Kd (w0 : World) (kv : Value) (kids : List Int) (ps : List GNode) (w : World) : Prop where
 own : OwnI w w0.heap.size kv kids
 ne : ∀ g, kv.ownBlock = some g → g ∉ gBlks ps
theorem Kd.nil (w0 : World) (ps : List GNode) (w : World) : Kd w0 (.slice none 0 0) [] ps w := ⟨OwnI.nil _ _, fun g hg => by cases hg⟩
theorem Kd.kp {w0 w w' : World} {kv : Value} {kids : List Int} {ps : List GNode} (h : Kd w0 kv kids ps w) (hk : Kp w w') : Kd w0 kv kids ps w' := ⟨ownsRow_keep h.own hk, h.ne⟩
theorem Kd.later {w0 w w' : World} {rp : Nat} {L : List TokenM} {l : List Tk} {ps new : List GNode} {s : Nat} {kv : Value} {kids : List Int} (h : Kd w0 kv kids ps w) (hp : PrsE w rp L l ps s) (k : Pk rp w w') (hn : ∀ g ∈ gBlks new, w.heap.size ≤ g) : Kd w0 kv kids (ps ++ new) w' := by
 refine ⟨own_pk h.own k (hp.own_ne (by decide) h.own), fun g hg => ?_⟩
 rw [gBlks_app, List.mem_append]
 rintro (hm | hm)
 ·exact h.ne g hg hm
 ·have h1 := hn g hm
  have h2 := (World.ownsRow.lt h.own g hg).2
  omega
theorem PrsV.kp {w w' : World} {rp : Nat} {L : List TokenM} {l : List Tk} {ps : List GNode} {s : Nat} {lv tv : Value} (h : PrsV w rp L l ps s lv tv) (hk : Kp w w') : PrsV w' rp L l ps s lv tv := by
 obtain ⟨n, h⟩ := h; exact ⟨n, h.kp hk⟩
theorem PrsV.weak {w : World} {rp : Nat} {L : List TokenM} {l : List Tk} {ps : List GNode} {s s' : Nat} {lv tv : Value} (h : PrsV w rp L l ps s lv tv) (hs : s' ≤ s) : PrsV w rp L l ps s' lv tv := by
 obtain ⟨n, h⟩ := h; exact ⟨n, h.weak hs⟩
theorem Prs.far {w : World} {rp rb j : Nat} {L : List TokenM} {l : List Tk} {ps : List GNode} {s n : Nat} {lv tv : Value} (h : Prs w rp L l ps s lv tv n) (h1 : rp < rb) (h2 : tv.ownBlock ≠ some rb) (h3 : rb ∉ gBlks ps) (v : Value) : Prs (w.setCell ⟨rb, j, none⟩ v) rp L l ps s lv tv n := by
 have hg := grown_setCell (w := w) (b := rb) (o := j) v
 refine ⟨(blk_far (p := ⟨rb, j, none⟩) (show rp ≠ rb by omega) _).trans h.blk, ?_, ?_, h.here, h.rest, h.nd, h.bd, h.lt⟩
 ·obtain ⟨u0, k1, k2, k3⟩ := h.toks
  exact ⟨u0, k1, k2, k3.setCell (p := ⟨rb, j, none⟩) (Nat.le_of_lt h1) _⟩
 ·obtain ⟨ys, y1, y2⟩ := h.tree
  have kept : ∀ {e : TypeId} {size m base : Nat} {v : Value} {xs : List Value}, v.ownBlock ≠ some rb → w.ownsRow base e size v m xs → (w.setCell ⟨rb, j, none⟩ _).ownsRow base e size v m xs := fun hne ho => World.ownsRow.kept ho hg (by
   rename_i v' _
   cases hq : v'.ownBlock with
   | none => exact .inl rfl
   | some g => exact .inr (by rw [← hq]; exact hne))
  refine ⟨ys, kept h2 y1, ?_⟩
  have : ∀ {l : List GNode} {xs : List Value}, (∀ a ∈ l, a.2.ownBlock ≠ some rb) → Chunk (CeG rp) 5 w xs l → Chunk (CeG rp) 5 (w.setCell ⟨rb, j, none⟩ v) xs l := by
   intro l
   induction l with
   | nil => intro xs _ h; exact h
   | cons a l ih =>
    rintro xs hm ⟨cs, r, rfl, z1, z2, z3⟩
    exact ⟨cs, r, rfl, z1, ⟨z2.1, kept (hm a (List.mem_cons_self ..)) z2.2.1, z2.2.2⟩, ih (fun b hb => hm b (List.mem_cons_of_mem _ hb)) z3⟩
  exact this (fun a ha e => h3 (List.mem_filterMap.2 ⟨a, ha, e⟩)) y2
theorem Prs.blks_lt {w : World} {rp : Nat} {L : List TokenM} {l : List Tk} {ps : List GNode} {s n : Nat} {lv tv : Value} (h : Prs w rp L l ps s lv tv n) : (∀ g, tv.ownBlock = some g → g < w.heap.size) ∧ ∀ g ∈ gBlks ps, g < w.heap.size := by
 obtain ⟨ys, y1, y2⟩ := h.tree
 refine ⟨fun g hg => (World.ownsRow.lt y1 g hg).2, fun g hg => ?_⟩
 obtain ⟨a, ha, hb⟩ := List.mem_filterMap.1 hg
 obtain ⟨i, hi⟩ := List.getElem?_of_mem ha
 obtain ⟨cs, hcs, _⟩ := y2.get hi
 exact (World.ownsRow.lt hcs.2.1 _ hb).2
structure StN (w0 : World) (rp : Nat) (L : List TokenM) (l : List Tk) (ps na new : List GNode) (ts : List T) (s : Nat) (kv : Value) (kids : List Int) (w : World) : Prop where
 lo : rp ≤ w0.heap.size
 prs : PrsE w rp L l (ps ++ na ++ new) s
 is_ : (na ++ new).map Prod.fst = flatL ps.length ts
 ge : ∀ g ∈ gBlks new, w0.heap.size ≤ g
 pk : Pk rp w0 w
 kd : Kd w0 kv kids (ps ++ na ++ new) w
def StT (w0 : World) (rp : Nat) (L : List TokenM) (l : List Tk) (ps na : List GNode) (ts : List T) (s : Nat) (kv : Value) (kids : List Int) (w : World) : Prop := ∃ new, StN w0 rp L l ps na new ts s kv kids w
abbrev nilV : Value := .slice none 0 0
section
variable {w0 w w' : World} {rp : Nat} {L : List TokenM} {l l' : List Tk} {ps na : List GNode} {ts : List T} {s s' : Nat} {kv : Value} {kids : List Int}
theorem StT.start (h : PrsE w rp L l (ps ++ na) s) (hn : na.map Prod.fst = flatL ps.length ts) : StT w rp L l ps na ts s nilV [] w :=
 ⟨[], h.le, by rw [List.append_nil]; exact h, by rw [List.append_nil]; exact hn, fun g hg => by simp [gBlks] at hg, Pk.refl _ _, Kd.nil _ _ _⟩
theorem StT.kp (h : StT w0 rp L l ps na ts s kv kids w) (hk : Kp w w') : StT w0 rp L l ps na ts s kv kids w' := by
 obtain ⟨new, h0, h1, h2, h3, h4, h5⟩ := h
 exact ⟨new, h0, h1.kp hk, h2, h3, h4.trans (Pk.of_kp hk h1.le), h5.kp hk⟩
theorem StT.weak (h : StT w0 rp L l ps na ts s kv kids w) (hs : s' ≤ s) : StT w0 rp L l ps na ts s' kv kids w := by
 obtain ⟨new, h0, h1, h2, h3, h4, h5⟩ := h
 exact ⟨new, h0, h1.weak hs, h2, h3, h4, h5⟩
theorem StT.le (h : StT w0 rp L l ps na ts s kv kids w) : rp ≤ w.heap.size := by obtain ⟨new, _, h1, _⟩ := h; exact h1.le
theorem StT.size (h : StT w0 rp L l ps na ts s kv kids w) : w0.heap.size ≤ w.heap.size := by obtain ⟨new, _, _, _, _, h4, _⟩ := h; exact h4.le
theorem StT.pk (h : StT w0 rp L l ps na ts s kv kids w) : Pk rp w0 w := by obtain ⟨new, _, _, _, _, h4, _⟩ := h; exact h4
theorem StT.low (h : StT w0 rp L l ps na ts s kv kids w) : Below rp w0 w := h.pk.1
theorem StT.bd (h : StT w0 rp L l ps na ts s kv kids w) : ps.length + sizeL ts + 2 * l.length + s ≤ 4001 := by
 obtain ⟨new, _, h1, h2, _⟩ := h
 have := h1.bd
 have h3 := congrArg List.length h2
 rw [flatL_len, List.length_map] at h3
 simp only [List.length_append] at this h3
 omega
theorem StT.step (h : StT w0 rp L l ps na ts s kv kids w) (hp : ∀ qs, PrsE w rp L l qs s → PrsE w' rp L l' qs s') (hk : Pk rp w w') : StT w0 rp L l' ps na ts s' kv kids w' := by
 obtain ⟨new, h0, h1, h2, h3, h4, h5⟩ := h
 refine ⟨new, h0, hp _ h1, h2, h3, h4.trans hk, ?_⟩
 have := h5.later (new := []) h1 hk (fun g hg => by simp [gBlks] at hg)
 rwa [List.append_nil] at this
theorem StT.call {tin tout : List T} {P Na : List GNode} {nw : List GNode} {k2 : Value} {ks2 : List Int} (h : StN w0 rp L l ps na nw (ts ++ tin) s kv kids w) (hP : P ++ Na = ps ++ na ++ nw) (hl : P.length = ps.length + sizeL ts) (k : StT w rp L l' P Na tout s' k2 ks2 w') : StT w0 rp L l' ps na (ts ++ tout) s' kv kids w' := by
 obtain ⟨n2, k0, k1, k3, k4, k5, k6⟩ := k
 obtain ⟨h0, h1, h2, h3, h4, h5⟩ := h
 rw [hP] at k1
 refine ⟨nw ++ n2, h0, by rw [← List.append_assoc]; exact k1, ?_, fun g hg => ?_, h4.trans k5, by rw [← List.append_assoc]; exact h5.later h1 k5 k4⟩
 ·have e : ps ++ (na ++ (nw ++ n2)) = P ++ (Na ++ n2) := by rw [← List.append_assoc P, hP]; simp
  have e2 := congrArg (List.drop ps.length) e
  rw [List.drop_left] at e2
  rw [flatL_app, ← hl, ← k3, e2]
  rw [List.drop_append, List.map_append]
  have e3 : (P.drop ps.length).map Prod.fst = flatL ps.length ts := by
   have e4 := congrArg (List.drop ps.length) hP
   rw [List.append_assoc, List.drop_left, List.drop_append, show ps.length - P.length = 0 by omega, List.drop_zero] at e4
   rw [flatL_app] at h2
   rw [← e4] at h2
   rw [List.map_append] at h2
   exact (List.append_inj h2 (by rw [List.length_map, List.length_drop, flatL_len]; omega)).1
  rw [e3, show ps.length - P.length = 0 by omega, List.drop_zero]
 ·rw [gBlks_app, List.mem_append] at hg
  rcases hg with hg | hg
  ·exact h3 g hg
  ·exact Nat.le_trans h4.le (k4 g hg)
theorem StT.split {tin : List T} (h : StT w0 rp L l ps na (ts ++ tin) s kv kids w) : ∃ nw P Na, StN w0 rp L l ps na nw (ts ++ tin) s kv kids w ∧ P ++ Na = ps ++ na ++ nw ∧ P.length = ps.length + sizeL ts ∧ StT w rp L l P Na tin s nilV [] w := by
 obtain ⟨nw, h⟩ := h
 have h2 := h.is_
 rw [flatL_app] at h2
 obtain ⟨X, Y, e, hx, hy⟩ := List.map_eq_append_iff.1 h2
 have hl : (ps ++ X).length = ps.length + sizeL ts := by
  have := congrArg List.length hx
  rw [List.length_map, flatL_len] at this
  rw [List.length_append]; omega
 have hP : (ps ++ X) ++ Y = ps ++ na ++ nw := by rw [List.append_assoc, ← e, List.append_assoc]
 refine ⟨nw, ps ++ X, Y, h, hP, hl, StT.start ?_ ?_⟩
 ·rw [hP]; exact h.prs
 ·rw [hl]; exact hy
theorem StN.step {new : List GNode} (h : StN w0 rp L l ps na new ts s kv kids w) (hp : PrsE w' rp L l' (ps ++ na ++ new) s') (hk : Pk rp w w') : StT w0 rp L l' ps na ts s' kv kids w' := by
 refine ⟨new, h.lo, hp, h.is_, h.ge, h.pk.trans hk, ?_⟩
 have := h.kd.later (new := []) h.prs hk (fun g hg => by simp [gBlks] at hg)
 rwa [List.append_nil] at this
theorem chunk_mem {α : Type} {el el' : World → List Value → α → Prop} {sz : Nat} {w w' : World} : ∀ {l : List α} {xs : List Value}, (∀ cs a, a ∈ l → el w cs a → el' w' cs a) → Chunk el sz w xs l → Chunk el' sz w' xs l
 | [], xs, _, h => h
 | a :: l, xs, hel, h => by
  obtain ⟨cs, r, rfl, h1, h2, h3⟩ := h
  exact ⟨cs, r, rfl, h1, hel _ _ (List.mem_cons_self ..) h2, chunk_mem (fun cs b hb => hel cs b (List.mem_cons_of_mem _ hb)) h3⟩
theorem PrsE.grown {qs : List GNode} {kv : Value} {base n : Nat} {xs : List Value} (h : PrsE w rp L l qs s) (ho : w.ownsRow base 3 1 kv n xs) (hb : rp ≤ base) (hne : ∀ g, kv.ownBlock = some g → g ∉ gBlks qs) (hg : w.grownBy w' kv.ownBlock) : PrsE w' rp L l qs s := by
 have hr := h.own_ne (by decide) ho
 obtain ⟨lv, tv, m, h⟩ := h
 refine ⟨lv, tv, m, grown_blk hg h.blk (fun e => hr e.symm), ?_, ?_, h.here, h.rest, h.nd, h.bd, h.lt⟩
 ·obtain ⟨u0, h1, h2, h3⟩ := h.toks
  exact ⟨u0, h1, h2, h3.grown hg h.le (fun k hk => Nat.le_trans hb (World.ownsRow.lt ho k hk).1)⟩
 ·obtain ⟨ys, h1, h2⟩ := h.tree
  refine ⟨ys, World.ownsRow.kept h1 hg ?_, chunk_mem (fun cs a ha hc => ⟨hc.1, World.ownsRow.kept hc.2.1 hg ?_, hc.2.2⟩) h2⟩
  ·cases hq : tv.ownBlock with
   | none => exact .inl rfl
   | some g =>
    refine .inr fun e => ?_
    rcases h1.2 with ⟨rfl, _⟩ | ⟨g1, _, c1, rfl, _, k1, _⟩
    ·cases hq
    ·rcases ho.2 with ⟨rfl, _⟩ | ⟨g2, _, c2, rfl, _, k2, _⟩
     ·cases e
     ·simp only [Value.ownBlock, Option.some.injEq] at hq e
      subst hq
      rw [← e, k1] at k2
      injection k2 with k2
      injection k2 with _ k2 _
      exact absurd k2 (by decide)
  ·cases hq : a.2.ownBlock with
   | none => exact .inl rfl
   | some g => exact .inr fun e => hne g e.symm (List.mem_filterMap.2 ⟨a, ha, hq⟩)
theorem StT.snoc (h : StT w0 rp L l ps na ts s kv kids w) (x : Int) {kv' : Value} {n : Nat} (hn : n = kids.length + 1) (ho : w'.ownsRow w0.heap.size 3 1 kv' n (kids.map intV ++ [intV x])) (hg : w.grownBy w' kv.ownBlock) (hm : Moved w kv kv') : StT w0 rp L l ps na ts s kv' (kids ++ [x]) w' := by
 subst hn
 obtain ⟨new, h0, h1, h2, h3, h4, h5⟩ := h
 refine ⟨new, h0, h1.grown h5.own h0 h5.ne hg, h2, h3, ⟨h4.1.grown hg h1.le (fun k hk => Nat.le_trans h0 (World.ownsRow.lt h5.own k hk).1), fun k o k1 k2 k3 => ?_⟩, ?_, fun g hg' => ?_⟩
 ·have := h4.2 k o k1 k2 k3
  refine grown_blk hg this (fun e => ?_)
  have hh := (World.ownsRow.lt h5.own k e.symm).1
  have := blk_lt k1
  omega
 ·unfold OwnI
  rw [List.length_append, List.map_append]; exact ho
 ·rcases hm with hm | ⟨k, hm, hk⟩
  ·rw [hm] at hg'; exact h5.ne g hg'
  ·rw [hm] at hg'
   injection hg' with hg'
   subst hg'
   intro hc
   obtain ⟨a, ha, hb⟩ := List.mem_filterMap.1 hc
   obtain ⟨lv, tv, m, hp⟩ := h1
   obtain ⟨ys, _, hch⟩ := hp.tree
   obtain ⟨i, hi⟩ := List.getElem?_of_mem ha
   obtain ⟨cs, hcs, _⟩ := hch.get hi
   have := (World.ownsRow.lt hcs.2.1 _ hb).2
   omega
theorem StT.lit (h : StT w0 rp L l ps na ts s nilV [] w) (xs : List Int) (cs : Array Value) (hc : cs.toList = xs.map intV) (n : Nat) (hn : n = xs.length) (hl : n ≤ maxLen) : StT w0 rp L l ps na ts s (.slice (some ⟨w.heap.size, 0, none⟩) n n) xs (w.alloc (.cells cs 3)) := by
 subst hn
 have hk : Kp w (w.alloc (.cells cs 3)) := (Kp.refl _).alloc _
 have hz := h.size
 obtain ⟨new, h0, h1, h2, h3, h4, h5⟩ := h
 refine ⟨new, h0, h1.kp hk, h2, h3, h4.trans (Pk.of_kp hk h1.le), ?_, fun g hg hc' => ?_⟩
 ·have := World.ownsRow_lit (base := w0.heap.size) (e := 3) (size := 1) w cs xs.length hz hl (by have := congrArg List.length hc; simpa using this)
  rw [hc] at this
  exact this
 ·simp only [Value.ownBlock, Option.some.injEq] at hg
  subst hg
  obtain ⟨a, ha, hb⟩ := List.mem_filterMap.1 hc'
  obtain ⟨lv, tv, m, hp⟩ := h1
  obtain ⟨ys, _, hch⟩ := hp.tree
  obtain ⟨i, hi⟩ := List.getElem?_of_mem ha
  obtain ⟨cs', hcs, _⟩ := hch.get hi
  have := (World.ownsRow.lt hcs.2.1 _ hb).2
  omega
end
end Go.Proofs.Ytcjgagmcnmmfoaa.Pa
namespace Go.Proofs.Ytcjgagmcnmmfoaa.Pa
open Go.RowKit

def stopP : Ending := .panicked [{ v := .iface 44 (.agg #[.int .i64 6]), recovered := false }]
theorem fail_any (w : World) (v : Value) : Calls Try.prog 20 #[v] w fun e w' => e = stopP ∧ Kp w w' := by
 have HK := hid (Kp.refl w)
 go_enter Try.func20, Try.ntmps20
 go_wp2
 exact ⟨rfl, rfl, HK.out⟩
section
variable {L : List TokenM} {l : List Tk} {ps : List GNode} {s : Nat} {lv tv : Value}
theorem kind_any (w : World) (rp : Nat) (h : PrsE w rp L l ps s) : Calls Try.prog 16 #[.pointer (some ⟨rp, 0, none⟩)] w fun e w' => e = .returned (.int .i64 (kindOf l)) ∧ Kp w w' := by
 obtain ⟨lv, tv, n, h⟩ := h
 obtain ⟨A, c, rfl⟩ := h.lform
 have c0 := h.c0; have c1 := h.c1; have lt := h.rp_lt; have n2 := h.n_le
 cases l with
 | nil =>
  have hn := h.kind.1 rfl
  have i1 : ¬ (n : Int) < (L.length : Int) := by omega
  clear h hn
  go_enter Try.func16, Try.ntmps16
  go_upto_region 1 with fail
  refine wp_region_kp [[], [0], [1], [2], [], [4], [5], [6], [7], [3, 8]] (fun u => Kp w u)
   [eqV (.pointer (some ⟨rp, 0, none⟩)), eqV (.pointer (some ⟨rp, 0, none⟩)), eqV (.pointer (some ⟨rp, 1, none⟩)), eqV (.int .i64 (n : Int)), eqV (.pointer (some ⟨rp, 0, none⟩)), eqV (.pointer (some ⟨rp, 0, none⟩)), eqV (.pointer (some ⟨rp, 0, none⟩)), eqV (.slice A L.length c), eqV (.int .i64 (L.length : Int)), eqV (.bool false)]
   (by kernel_rfl) (by kernel_rfl) (by kernel_rfl) (by kernel_rfl) ((Kp.refl _).drew) (fun _ _ hk h => h.trans hk) (by repeat' first | exact trivial | refine ⟨fun _ _ _ _ h => h, ?_⟩) ⟨?sb0, ?sb1, ?sb2, ?sb3, ?sb4, ?sb5, ?sb6, ?sb7, ?sb8, ?sb9, trivial⟩ ?hEb
  case sb0 | sb4 => exact OpStepK.mv 0 (.pointer (some ⟨rp, 0, none⟩)) (by kernel_rfl) (free_ (by kernel_rfl)) (fun _ _ _ => by kernel_rfl) (fun _ => rfl)
  case sb1 => exact OpStepK.op1 3 (.pointer (some ⟨rp, 0, none⟩)) (free_ (by kernel_rfl)) (fun x _ h => Eq.trans (b := some (x 0)) (by kernel_rfl) (congrArg some h.1)) fun a u e3 hg K hK => (by go_simp; exact hK.out _ _ (Kp.refl _) rfl)
  case sb2 => exact OpStepK.op1 4 (.pointer (some ⟨rp, 0, none⟩)) (free_ (by kernel_rfl)) (fun x _ h => Eq.trans (b := some (x 1)) (by kernel_rfl) (congrArg some h.1)) fun a u e4 hg K hK => (by go_simp; exact hK.out _ _ (Kp.refl _) rfl)
  case sb3 => exact OpStepK.op1 5 (.pointer (some ⟨rp, 1, none⟩)) (free_ (by kernel_rfl)) (fun x _ h => Eq.trans (b := some (x 2)) (by kernel_rfl) (congrArg some h.1)) fun a u e5 hg K hK => (by have q0 := cell_kp hg lt c1; go_simp; exact hK.out _ _ (Kp.refl _) rfl)
  case sb5 => exact OpStepK.op1 7 (.pointer (some ⟨rp, 0, none⟩)) (free_ (by kernel_rfl)) (fun x _ h => Eq.trans (b := some (x 4)) (by kernel_rfl) (congrArg some h.1)) fun a u e7 hg K hK => (by go_simp; exact hK.out _ _ (Kp.refl _) rfl)
  case sb6 => exact OpStepK.op1 8 (.pointer (some ⟨rp, 0, none⟩)) (free_ (by kernel_rfl)) (fun x _ h => Eq.trans (b := some (x 5)) (by kernel_rfl) (congrArg some h.1)) fun a u e8 hg K hK => (by go_simp; exact hK.out _ _ (Kp.refl _) rfl)
  case sb7 => exact OpStepK.op1 9 (.pointer (some ⟨rp, 0, none⟩)) (free_ (by kernel_rfl)) (fun x _ h => Eq.trans (b := some (x 6)) (by kernel_rfl) (congrArg some h.1)) fun a u e9 hg K hK => (by have q0 := cell_kp hg lt c0; go_simp; exact hK.out _ _ (Kp.refl _) rfl)
  case sb8 => exact OpStepK.op1 10 (.slice A L.length c) (free_ (by kernel_rfl)) (fun x _ h => Eq.trans (b := some (x 7)) (by kernel_rfl) (congrArg some h.1)) fun a u e10 hg K hK => (by go_simp; exact hK.out _ _ (Kp.refl _) rfl)
  case sb9 => exact OpStepK.op2 6 11 (.int .i64 (n : Int)) (.int .i64 (L.length : Int)) (free_ (by kernel_rfl)) (fun x _ h => Eq.trans (b := some (x 3)) (by kernel_rfl) (congrArg some h.1)) (fun x _ h => Eq.trans (b := some (x 8)) (by kernel_rfl) (congrArg some h.2.1)) fun a u e6 e11 hg K hK => (by go_simp; exact hK.out _ _ (Kp.refl _) rfl)
  intro x u hg he
  obtain ⟨d0, d1, d2, d3, d4, d5, d6, d7, d8, d9, -⟩ := he
  refine ⟨?_⟩
  simp only [putsFrom, Act.put, List.setIfInBounds_toArray, List.set_cons_zero, List.set_cons_succ, Nat.reduceAdd, d0, d1, d2, d3, d4, d5, d6, d7, d8, d9]
  clear d0 d1 d2 d3 d4 d5 d6 d7 d8 d9
  have HG := hid hg
  clear hg
  go_wp2
  go_ret
  exact ⟨rfl, HG.out⟩
 | cons t r =>
  obtain ⟨hn, b, off, cc, m, e, hb1, hb2, _, _, g0, g1, _, _, _⟩ := h.tok
  injection e with e _ e2
  subst e; subst e2
  have i1 : (n : Int) < (L.length : Int) := by omega
  obtain ⟨N, hN⟩ : ∃ N, L.length = N := ⟨_, rfl⟩
  rw [hN] at c0 i1
  clear h hn hN
  go_enter Try.func16, Try.ntmps16
  go_upto_region 1 with fail
  refine wp_region_kp [[], [0], [1], [2], [], [4], [5], [6], [7], [3, 8]] (fun u => Kp w u)
   [eqV (.pointer (some ⟨rp, 0, none⟩)), eqV (.pointer (some ⟨rp, 0, none⟩)), eqV (.pointer (some ⟨rp, 1, none⟩)), eqV (.int .i64 (n : Int)), eqV (.pointer (some ⟨rp, 0, none⟩)), eqV (.pointer (some ⟨rp, 0, none⟩)), eqV (.pointer (some ⟨rp, 0, none⟩)), eqV (.slice (some ⟨b, off, none⟩) N c), eqV (.int .i64 (N : Int)), eqV (.bool true)]
   (by kernel_rfl) (by kernel_rfl) (by kernel_rfl) (by kernel_rfl) ((Kp.refl _).drew) (fun _ _ hk h => h.trans hk) (by repeat' first | exact trivial | refine ⟨fun _ _ _ _ h => h, ?_⟩) ⟨?sc0, ?sc1, ?sc2, ?sc3, ?sc4, ?sc5, ?sc6, ?sc7, ?sc8, ?sc9, trivial⟩ ?hEc
  case sc0 | sc4 => exact OpStepK.mv 0 (.pointer (some ⟨rp, 0, none⟩)) (by kernel_rfl) (free_ (by kernel_rfl)) (fun _ _ _ => by kernel_rfl) (fun _ => rfl)
  case sc1 => exact OpStepK.op1 3 (.pointer (some ⟨rp, 0, none⟩)) (free_ (by kernel_rfl)) (fun x _ h => Eq.trans (b := some (x 0)) (by kernel_rfl) (congrArg some h.1)) fun a u e3 hg K hK => (by go_simp; exact hK.out _ _ (Kp.refl _) rfl)
  case sc2 => exact OpStepK.op1 4 (.pointer (some ⟨rp, 0, none⟩)) (free_ (by kernel_rfl)) (fun x _ h => Eq.trans (b := some (x 1)) (by kernel_rfl) (congrArg some h.1)) fun a u e4 hg K hK => (by go_simp; exact hK.out _ _ (Kp.refl _) rfl)
  case sc3 => exact OpStepK.op1 5 (.pointer (some ⟨rp, 1, none⟩)) (free_ (by kernel_rfl)) (fun x _ h => Eq.trans (b := some (x 2)) (by kernel_rfl) (congrArg some h.1)) fun a u e5 hg K hK => (by have q0 := cell_kp hg lt c1; go_simp; exact hK.out _ _ (Kp.refl _) rfl)
  case sc5 => exact OpStepK.op1 7 (.pointer (some ⟨rp, 0, none⟩)) (free_ (by kernel_rfl)) (fun x _ h => Eq.trans (b := some (x 4)) (by kernel_rfl) (congrArg some h.1)) fun a u e7 hg K hK => (by go_simp; exact hK.out _ _ (Kp.refl _) rfl)
  case sc6 => exact OpStepK.op1 8 (.pointer (some ⟨rp, 0, none⟩)) (free_ (by kernel_rfl)) (fun x _ h => Eq.trans (b := some (x 5)) (by kernel_rfl) (congrArg some h.1)) fun a u e8 hg K hK => (by go_simp; exact hK.out _ _ (Kp.refl _) rfl)
  case sc7 => exact OpStepK.op1 9 (.pointer (some ⟨rp, 0, none⟩)) (free_ (by kernel_rfl)) (fun x _ h => Eq.trans (b := some (x 6)) (by kernel_rfl) (congrArg some h.1)) fun a u e9 hg K hK => (by have q0 := cell_kp hg lt c0; go_simp; exact hK.out _ _ (Kp.refl _) rfl)
  case sc8 => exact OpStepK.op1 10 (.slice (some ⟨b, off, none⟩) N c) (free_ (by kernel_rfl)) (fun x _ h => Eq.trans (b := some (x 7)) (by kernel_rfl) (congrArg some h.1)) fun a u e10 hg K hK => (by go_simp; exact hK.out _ _ (Kp.refl _) rfl)
  case sc9 => exact OpStepK.op2 6 11 (.int .i64 (n : Int)) (.int .i64 (N : Int)) (free_ (by kernel_rfl)) (fun x _ h => Eq.trans (b := some (x 3)) (by kernel_rfl) (congrArg some h.1)) (fun x _ h => Eq.trans (b := some (x 8)) (by kernel_rfl) (congrArg some h.2.1)) fun a u e6 e11 hg K hK => (by go_simp; exact hK.out _ _ (Kp.refl _) rfl)
  intro x u hg he
  obtain ⟨d0, d1, d2, d3, d4, d5, d6, d7, d8, d9, -⟩ := he
  refine ⟨?_⟩
  simp only [putsFrom, Act.put, List.setIfInBounds_toArray, List.set_cons_zero, List.set_cons_succ, Nat.reduceAdd, d0, d1, d2, d3, d4, d5, d6, d7, d8, d9]
  clear d0 d1 d2 d3 d4 d5 d6 d7 d8 d9
  have HG := hid hg
  have c0 := cell_kp hg lt c0
  have c1 := cell_kp hg lt c1
  have g0 := cell_kp hg hb2 g0
  have lt := Nat.lt_of_lt_of_le lt hg.le
  have hb2 := Nat.lt_of_lt_of_le hb2 hg.le
  clear hg
  obtain ⟨W1, hW1⟩ : ∃ x, x = u := ⟨_, rfl⟩
  subst hW1
  go_upto_region 2 with fail
  refine wp_region_kp [[], [0], [1], [2], [], [4], [5], [6], [3, 7], [8], [9], [10]] (fun u => Kp W1 u)
   [eqV (.pointer (some ⟨rp, 0, none⟩)), eqV (.pointer (some ⟨rp, 0, none⟩)), eqV (.pointer (some ⟨rp, 0, none⟩)), eqV (.slice (some ⟨b, off, none⟩) N c), eqV (.pointer (some ⟨rp, 0, none⟩)), eqV (.pointer (some ⟨rp, 0, none⟩)), eqV (.pointer (some ⟨rp, 1, none⟩)), eqV (.int .i64 (n : Int)), eqV (.pointer (some ⟨b, off + n * 4, none⟩)), eqV (.pointer (some ⟨b, off + n * 4, none⟩)), eqV (.int .i64 t.1), eqV (.int .i64 t.1)]
   (by kernel_rfl) (by kernel_rfl) (by kernel_rfl) (by kernel_rfl) ((Kp.refl _).drew) (fun _ _ hk h => h.trans hk) (by repeat' first | exact trivial | refine ⟨fun _ _ _ _ h => h, ?_⟩) ⟨?sd0, ?sd1, ?sd2, ?sd3, ?sd4, ?sd5, ?sd6, ?sd7, ?sd8, ?sd9, ?sd10, ?sd11, trivial⟩ ?hEd
  case sd0 | sd4 => exact OpStepK.mv 0 (.pointer (some ⟨rp, 0, none⟩)) (by kernel_rfl) (free_ (by kernel_rfl)) (fun _ _ _ => by kernel_rfl) (fun _ => rfl)
  case sd1 => exact OpStepK.op1 13 (.pointer (some ⟨rp, 0, none⟩)) (free_ (by kernel_rfl)) (fun x _ h => Eq.trans (b := some (x 0)) (by kernel_rfl) (congrArg some h.1)) fun a u e13 hg K hK => (by go_simp; exact hK.out _ _ (Kp.refl _) rfl)
  case sd2 => exact OpStepK.op1 14 (.pointer (some ⟨rp, 0, none⟩)) (free_ (by kernel_rfl)) (fun x _ h => Eq.trans (b := some (x 1)) (by kernel_rfl) (congrArg some h.1)) fun a u e14 hg K hK => (by go_simp; exact hK.out _ _ (Kp.refl _) rfl)
  case sd3 => exact OpStepK.op1 15 (.pointer (some ⟨rp, 0, none⟩)) (free_ (by kernel_rfl)) (fun x _ h => Eq.trans (b := some (x 2)) (by kernel_rfl) (congrArg some h.1)) fun a u e15 hg K hK => (by have q0 := cell_kp hg lt c0; go_simp; exact hK.out _ _ (Kp.refl _) rfl)
  case sd5 => exact OpStepK.op1 17 (.pointer (some ⟨rp, 0, none⟩)) (free_ (by kernel_rfl)) (fun x _ h => Eq.trans (b := some (x 4)) (by kernel_rfl) (congrArg some h.1)) fun a u e17 hg K hK => (by go_simp; exact hK.out _ _ (Kp.refl _) rfl)
  case sd6 => exact OpStepK.op1 18 (.pointer (some ⟨rp, 0, none⟩)) (free_ (by kernel_rfl)) (fun x _ h => Eq.trans (b := some (x 5)) (by kernel_rfl) (congrArg some h.1)) fun a u e18 hg K hK => (by go_simp; exact hK.out _ _ (Kp.refl _) rfl)
  case sd7 => exact OpStepK.op1 19 (.pointer (some ⟨rp, 1, none⟩)) (free_ (by kernel_rfl)) (fun x _ h => Eq.trans (b := some (x 6)) (by kernel_rfl) (congrArg some h.1)) fun a u e19 hg K hK => (by have q0 := cell_kp hg lt c1; go_simp; exact hK.out _ _ (Kp.refl _) rfl)
  case sd8 => exact OpStepK.op2 16 20 (.slice (some ⟨b, off, none⟩) N c) (.int .i64 (n : Int)) (free_ (by kernel_rfl)) (fun x _ h => Eq.trans (b := some (x 3)) (by kernel_rfl) (congrArg some h.1)) (fun x _ h => Eq.trans (b := some (x 7)) (by kernel_rfl) (congrArg some h.2.1)) fun a u e16 e20 hg K hK => (by go_simp; exact hK.out _ _ (Kp.refl _) rfl)
  case sd9 => exact OpStepK.op1 21 (.pointer (some ⟨b, off + n * 4, none⟩)) (free_ (by kernel_rfl)) (fun x _ h => Eq.trans (b := some (x 8)) (by kernel_rfl) (congrArg some h.1)) fun a u e21 hg K hK => (by go_simp; exact hK.out _ _ (Kp.refl _) rfl)
  case sd10 => exact OpStepK.op1 22 (.pointer (some ⟨b, off + n * 4, none⟩)) (free_ (by kernel_rfl)) (fun x _ h => Eq.trans (b := some (x 9)) (by kernel_rfl) (congrArg some h.1)) fun a u e22 hg K hK => (by have q0 := cell_kp hg hb2 g0; go_simp; exact hK.out _ _ (Kp.refl _) rfl)
  case sd11 => exact OpStepK.as 23 (.int .i64 t.1) (by kernel_rfl) (free_ (by kernel_rfl)) (fun x _ h => Eq.trans (b := x 10) (by kernel_rfl) h.1) (fun _ => rfl)
  intro x u hg he
  obtain ⟨d0, d1, d2, d3, d4, d5, d6, d7, d8, d9, d10, d11, -⟩ := he
  refine ⟨?_⟩
  simp only [putsFrom, Act.put, List.setIfInBounds_toArray, List.set_cons_zero, List.set_cons_succ, Nat.reduceAdd, d0, d1, d2, d3, d4, d5, d6, d7, d8, d9, d10, d11]
  clear d0 d1 d2 d3 d4 d5 d6 d7 d8 d9 d10 d11
  have HG2 := hid hg
  clear hg
  go_wp2
  go_ret
  exact ⟨rfl, HG.out.trans HG2.out⟩
theorem text_any (w : World) (rp : Nat) (h : PrsE w rp L l ps s) : Calls Try.prog 47 #[.pointer (some ⟨rp, 0, none⟩)] w fun e w' => e = .returned (.string (textOf l)) ∧ Kp w w' := by
 obtain ⟨lv, tv, n, h⟩ := h
 obtain ⟨A, c, rfl⟩ := h.lform
 have c0 := h.c0; have c1 := h.c1; have lt := h.rp_lt; have n2 := h.n_le
 cases l with
 | nil =>
  have hn := h.kind.1 rfl
  have i1 : ¬ (n : Int) < (L.length : Int) := by omega
  clear h hn
  go_enter Try.func47, Try.ntmps47
  go_upto_region 1 with fail
  refine wp_region_kp [[], [0], [1], [2], [], [4], [5], [6], [7], [3, 8]] (fun u => Kp w u)
   [eqV (.pointer (some ⟨rp, 0, none⟩)), eqV (.pointer (some ⟨rp, 0, none⟩)), eqV (.pointer (some ⟨rp, 1, none⟩)), eqV (.int .i64 (n : Int)), eqV (.pointer (some ⟨rp, 0, none⟩)), eqV (.pointer (some ⟨rp, 0, none⟩)), eqV (.pointer (some ⟨rp, 0, none⟩)), eqV (.slice A L.length c), eqV (.int .i64 (L.length : Int)), eqV (.bool false)]
   (by kernel_rfl) (by kernel_rfl) (by kernel_rfl) (by kernel_rfl) ((Kp.refl _).drew) (fun _ _ hk h => h.trans hk) (by repeat' first | exact trivial | refine ⟨fun _ _ _ _ h => h, ?_⟩) ⟨?se0, ?se1, ?se2, ?se3, ?se4, ?se5, ?se6, ?se7, ?se8, ?se9, trivial⟩ ?hEe
  case se0 | se4 => exact OpStepK.mv 0 (.pointer (some ⟨rp, 0, none⟩)) (by kernel_rfl) (free_ (by kernel_rfl)) (fun _ _ _ => by kernel_rfl) (fun _ => rfl)
  case se1 => exact OpStepK.op1 3 (.pointer (some ⟨rp, 0, none⟩)) (free_ (by kernel_rfl)) (fun x _ h => Eq.trans (b := some (x 0)) (by kernel_rfl) (congrArg some h.1)) fun a u e3 hg K hK => (by go_simp; exact hK.out _ _ (Kp.refl _) rfl)
  case se2 => exact OpStepK.op1 4 (.pointer (some ⟨rp, 0, none⟩)) (free_ (by kernel_rfl)) (fun x _ h => Eq.trans (b := some (x 1)) (by kernel_rfl) (congrArg some h.1)) fun a u e4 hg K hK => (by go_simp; exact hK.out _ _ (Kp.refl _) rfl)
  case se3 => exact OpStepK.op1 5 (.pointer (some ⟨rp, 1, none⟩)) (free_ (by kernel_rfl)) (fun x _ h => Eq.trans (b := some (x 2)) (by kernel_rfl) (congrArg some h.1)) fun a u e5 hg K hK => (by have q0 := cell_kp hg lt c1; go_simp; exact hK.out _ _ (Kp.refl _) rfl)
  case se5 => exact OpStepK.op1 7 (.pointer (some ⟨rp, 0, none⟩)) (free_ (by kernel_rfl)) (fun x _ h => Eq.trans (b := some (x 4)) (by kernel_rfl) (congrArg some h.1)) fun a u e7 hg K hK => (by go_simp; exact hK.out _ _ (Kp.refl _) rfl)
  case se6 => exact OpStepK.op1 8 (.pointer (some ⟨rp, 0, none⟩)) (free_ (by kernel_rfl)) (fun x _ h => Eq.trans (b := some (x 5)) (by kernel_rfl) (congrArg some h.1)) fun a u e8 hg K hK => (by go_simp; exact hK.out _ _ (Kp.refl _) rfl)
  case se7 => exact OpStepK.op1 9 (.pointer (some ⟨rp, 0, none⟩)) (free_ (by kernel_rfl)) (fun x _ h => Eq.trans (b := some (x 6)) (by kernel_rfl) (congrArg some h.1)) fun a u e9 hg K hK => (by have q0 := cell_kp hg lt c0; go_simp; exact hK.out _ _ (Kp.refl _) rfl)
  case se8 => exact OpStepK.op1 10 (.slice A L.length c) (free_ (by kernel_rfl)) (fun x _ h => Eq.trans (b := some (x 7)) (by kernel_rfl) (congrArg some h.1)) fun a u e10 hg K hK => (by go_simp; exact hK.out _ _ (Kp.refl _) rfl)
  case se9 => exact OpStepK.op2 6 11 (.int .i64 (n : Int)) (.int .i64 (L.length : Int)) (free_ (by kernel_rfl)) (fun x _ h => Eq.trans (b := some (x 3)) (by kernel_rfl) (congrArg some h.1)) (fun x _ h => Eq.trans (b := some (x 8)) (by kernel_rfl) (congrArg some h.2.1)) fun a u e6 e11 hg K hK => (by go_simp; exact hK.out _ _ (Kp.refl _) rfl)
  intro x u hg he
  obtain ⟨d0, d1, d2, d3, d4, d5, d6, d7, d8, d9, -⟩ := he
  refine ⟨?_⟩
  simp only [putsFrom, Act.put, List.setIfInBounds_toArray, List.set_cons_zero, List.set_cons_succ, Nat.reduceAdd, d0, d1, d2, d3, d4, d5, d6, d7, d8, d9]
  clear d0 d1 d2 d3 d4 d5 d6 d7 d8 d9
  have HG := hid hg
  clear hg
  go_wp2
  go_ret
  exact ⟨rfl, HG.out⟩
 | cons t r =>
  obtain ⟨hn, b, off, cc, m, e, hb1, hb2, _, _, g0, g1, _, _, _⟩ := h.tok
  injection e with e _ e2
  subst e; subst e2
  have i1 : (n : Int) < (L.length : Int) := by omega
  obtain ⟨N, hN⟩ : ∃ N, L.length = N := ⟨_, rfl⟩
  rw [hN] at c0 i1
  clear h hn hN
  go_enter Try.func47, Try.ntmps47
  go_upto_region 1 with fail
  refine wp_region_kp [[], [0], [1], [2], [], [4], [5], [6], [7], [3, 8]] (fun u => Kp w u)
   [eqV (.pointer (some ⟨rp, 0, none⟩)), eqV (.pointer (some ⟨rp, 0, none⟩)), eqV (.pointer (some ⟨rp, 1, none⟩)), eqV (.int .i64 (n : Int)), eqV (.pointer (some ⟨rp, 0, none⟩)), eqV (.pointer (some ⟨rp, 0, none⟩)), eqV (.pointer (some ⟨rp, 0, none⟩)), eqV (.slice (some ⟨b, off, none⟩) N c), eqV (.int .i64 (N : Int)), eqV (.bool true)]
   (by kernel_rfl) (by kernel_rfl) (by kernel_rfl) (by kernel_rfl) ((Kp.refl _).drew) (fun _ _ hk h => h.trans hk) (by repeat' first | exact trivial | refine ⟨fun _ _ _ _ h => h, ?_⟩) ⟨?sf0, ?sf1, ?sf2, ?sf3, ?sf4, ?sf5, ?sf6, ?sf7, ?sf8, ?sf9, trivial⟩ ?hEf
  case sf0 | sf4 => exact OpStepK.mv 0 (.pointer (some ⟨rp, 0, none⟩)) (by kernel_rfl) (free_ (by kernel_rfl)) (fun _ _ _ => by kernel_rfl) (fun _ => rfl)
  case sf1 => exact OpStepK.op1 3 (.pointer (some ⟨rp, 0, none⟩)) (free_ (by kernel_rfl)) (fun x _ h => Eq.trans (b := some (x 0)) (by kernel_rfl) (congrArg some h.1)) fun a u e3 hg K hK => (by go_simp; exact hK.out _ _ (Kp.refl _) rfl)
  case sf2 => exact OpStepK.op1 4 (.pointer (some ⟨rp, 0, none⟩)) (free_ (by kernel_rfl)) (fun x _ h => Eq.trans (b := some (x 1)) (by kernel_rfl) (congrArg some h.1)) fun a u e4 hg K hK => (by go_simp; exact hK.out _ _ (Kp.refl _) rfl)
  case sf3 => exact OpStepK.op1 5 (.pointer (some ⟨rp, 1, none⟩)) (free_ (by kernel_rfl)) (fun x _ h => Eq.trans (b := some (x 2)) (by kernel_rfl) (congrArg some h.1)) fun a u e5 hg K hK => (by have q0 := cell_kp hg lt c1; go_simp; exact hK.out _ _ (Kp.refl _) rfl)
  case sf5 => exact OpStepK.op1 7 (.pointer (some ⟨rp, 0, none⟩)) (free_ (by kernel_rfl)) (fun x _ h => Eq.trans (b := some (x 4)) (by kernel_rfl) (congrArg some h.1)) fun a u e7 hg K hK => (by go_simp; exact hK.out _ _ (Kp.refl _) rfl)
  case sf6 => exact OpStepK.op1 8 (.pointer (some ⟨rp, 0, none⟩)) (free_ (by kernel_rfl)) (fun x _ h => Eq.trans (b := some (x 5)) (by kernel_rfl) (congrArg some h.1)) fun a u e8 hg K hK => (by go_simp; exact hK.out _ _ (Kp.refl _) rfl)
  case sf7 => exact OpStepK.op1 9 (.pointer (some ⟨rp, 0, none⟩)) (free_ (by kernel_rfl)) (fun x _ h => Eq.trans (b := some (x 6)) (by kernel_rfl) (congrArg some h.1)) fun a u e9 hg K hK => (by have q0 := cell_kp hg lt c0; go_simp; exact hK.out _ _ (Kp.refl _) rfl)
  case sf8 => exact OpStepK.op1 10 (.slice (some ⟨b, off, none⟩) N c) (free_ (by kernel_rfl)) (fun x _ h => Eq.trans (b := some (x 7)) (by kernel_rfl) (congrArg some h.1)) fun a u e10 hg K hK => (by go_simp; exact hK.out _ _ (Kp.refl _) rfl)
  case sf9 => exact OpStepK.op2 6 11 (.int .i64 (n : Int)) (.int .i64 (N : Int)) (free_ (by kernel_rfl)) (fun x _ h => Eq.trans (b := some (x 3)) (by kernel_rfl) (congrArg some h.1)) (fun x _ h => Eq.trans (b := some (x 8)) (by kernel_rfl) (congrArg some h.2.1)) fun a u e6 e11 hg K hK => (by go_simp; exact hK.out _ _ (Kp.refl _) rfl)
  intro x u hg he
  obtain ⟨d0, d1, d2, d3, d4, d5, d6, d7, d8, d9, -⟩ := he
  refine ⟨?_⟩
  simp only [putsFrom, Act.put, List.setIfInBounds_toArray, List.set_cons_zero, List.set_cons_succ, Nat.reduceAdd, d0, d1, d2, d3, d4, d5, d6, d7, d8, d9]
  clear d0 d1 d2 d3 d4 d5 d6 d7 d8 d9
  have HG := hid hg
  have c0 := cell_kp hg lt c0
  have c1 := cell_kp hg lt c1
  have g1 := cell_kp hg hb2 g1
  have lt := Nat.lt_of_lt_of_le lt hg.le
  have hb2 := Nat.lt_of_lt_of_le hb2 hg.le
  clear hg
  obtain ⟨W1, hW1⟩ : ∃ x, x = u := ⟨_, rfl⟩
  subst hW1
  go_upto_region 2 with fail
  refine wp_region_kp [[], [0], [1], [2], [], [4], [5], [6], [3, 7], [8], [9], [10]] (fun u => Kp W1 u)
   [eqV (.pointer (some ⟨rp, 0, none⟩)), eqV (.pointer (some ⟨rp, 0, none⟩)), eqV (.pointer (some ⟨rp, 0, none⟩)), eqV (.slice (some ⟨b, off, none⟩) N c), eqV (.pointer (some ⟨rp, 0, none⟩)), eqV (.pointer (some ⟨rp, 0, none⟩)), eqV (.pointer (some ⟨rp, 1, none⟩)), eqV (.int .i64 (n : Int)), eqV (.pointer (some ⟨b, off + n * 4, none⟩)), eqV (.pointer (some ⟨b, off + n * 4 + 1, none⟩)), eqV (.string t.2), eqV (.string t.2)]
   (by kernel_rfl) (by kernel_rfl) (by kernel_rfl) (by kernel_rfl) ((Kp.refl _).drew) (fun _ _ hk h => h.trans hk) (by repeat' first | exact trivial | refine ⟨fun _ _ _ _ h => h, ?_⟩) ⟨?sg0, ?sg1, ?sg2, ?sg3, ?sg4, ?sg5, ?sg6, ?sg7, ?sg8, ?sg9, ?sg10, ?sg11, trivial⟩ ?hEg
  case sg0 | sg4 => exact OpStepK.mv 0 (.pointer (some ⟨rp, 0, none⟩)) (by kernel_rfl) (free_ (by kernel_rfl)) (fun _ _ _ => by kernel_rfl) (fun _ => rfl)
  case sg1 => exact OpStepK.op1 13 (.pointer (some ⟨rp, 0, none⟩)) (free_ (by kernel_rfl)) (fun x _ h => Eq.trans (b := some (x 0)) (by kernel_rfl) (congrArg some h.1)) fun a u e13 hg K hK => (by go_simp; exact hK.out _ _ (Kp.refl _) rfl)
  case sg2 => exact OpStepK.op1 14 (.pointer (some ⟨rp, 0, none⟩)) (free_ (by kernel_rfl)) (fun x _ h => Eq.trans (b := some (x 1)) (by kernel_rfl) (congrArg some h.1)) fun a u e14 hg K hK => (by go_simp; exact hK.out _ _ (Kp.refl _) rfl)
  case sg3 => exact OpStepK.op1 15 (.pointer (some ⟨rp, 0, none⟩)) (free_ (by kernel_rfl)) (fun x _ h => Eq.trans (b := some (x 2)) (by kernel_rfl) (congrArg some h.1)) fun a u e15 hg K hK => (by have q0 := cell_kp hg lt c0; go_simp; exact hK.out _ _ (Kp.refl _) rfl)
  case sg5 => exact OpStepK.op1 17 (.pointer (some ⟨rp, 0, none⟩)) (free_ (by kernel_rfl)) (fun x _ h => Eq.trans (b := some (x 4)) (by kernel_rfl) (congrArg some h.1)) fun a u e17 hg K hK => (by go_simp; exact hK.out _ _ (Kp.refl _) rfl)
  case sg6 => exact OpStepK.op1 18 (.pointer (some ⟨rp, 0, none⟩)) (free_ (by kernel_rfl)) (fun x _ h => Eq.trans (b := some (x 5)) (by kernel_rfl) (congrArg some h.1)) fun a u e18 hg K hK => (by go_simp; exact hK.out _ _ (Kp.refl _) rfl)
  case sg7 => exact OpStepK.op1 19 (.pointer (some ⟨rp, 1, none⟩)) (free_ (by kernel_rfl)) (fun x _ h => Eq.trans (b := some (x 6)) (by kernel_rfl) (congrArg some h.1)) fun a u e19 hg K hK => (by have q0 := cell_kp hg lt c1; go_simp; exact hK.out _ _ (Kp.refl _) rfl)
  case sg8 => exact OpStepK.op2 16 20 (.slice (some ⟨b, off, none⟩) N c) (.int .i64 (n : Int)) (free_ (by kernel_rfl)) (fun x _ h => Eq.trans (b := some (x 3)) (by kernel_rfl) (congrArg some h.1)) (fun x _ h => Eq.trans (b := some (x 7)) (by kernel_rfl) (congrArg some h.2.1)) fun a u e16 e20 hg K hK => (by go_simp; exact hK.out _ _ (Kp.refl _) rfl)
  case sg9 => exact OpStepK.op1 21 (.pointer (some ⟨b, off + n * 4, none⟩)) (free_ (by kernel_rfl)) (fun x _ h => Eq.trans (b := some (x 8)) (by kernel_rfl) (congrArg some h.1)) fun a u e21 hg K hK => (by go_simp; exact hK.out _ _ (Kp.refl _) rfl)
  case sg10 => exact OpStepK.op1 22 (.pointer (some ⟨b, off + n * 4 + 1, none⟩)) (free_ (by kernel_rfl)) (fun x _ h => Eq.trans (b := some (x 9)) (by kernel_rfl) (congrArg some h.1)) fun a u e22 hg K hK => (by have q0 := cell_kp hg hb2 g1; go_simp; exact hK.out _ _ (Kp.refl _) rfl)
  case sg11 => exact OpStepK.as 23 (.string t.2) (by kernel_rfl) (free_ (by kernel_rfl)) (fun x _ h => Eq.trans (b := x 10) (by kernel_rfl) h.1) (fun _ => rfl)
  intro x u hg he
  obtain ⟨d0, d1, d2, d3, d4, d5, d6, d7, d8, d9, d10, d11, -⟩ := he
  refine ⟨?_⟩
  simp only [putsFrom, Act.put, List.setIfInBounds_toArray, List.set_cons_zero, List.set_cons_succ, Nat.reduceAdd, d0, d1, d2, d3, d4, d5, d6, d7, d8, d9, d10, d11]
  clear d0 d1 d2 d3 d4 d5 d6 d7 d8 d9 d10 d11
  have HG2 := hid hg
  clear hg
  go_wp2
  go_ret
  exact ⟨rfl, HG.out.trans HG2.out⟩

theorem beq_str (S t : ByteArray) (b : Bs) (hb : S.data.toList = b) : (t.toList == S.toList) = (t.data.toList == b) := by rw [ByteArray.toList_eq, ByteArray.toList_eq, hb]
theorem sign_no (w : World) (rp : Nat) (S : ByteArray) (b : Bs) (hb : S.data.toList = b) (h : PrsE w rp L l ps s) (hs : isSign b l = false) : Calls Try.prog 35 #[.pointer (some ⟨rp, 0, none⟩), .string S] w fun e w' => e = .returned (.bool false) ∧ Kp w w' := by
 have H := hid h
 by_cases h45 : kindOf l = 4 ∨ kindOf l = 5
 ·have hx : ((textOf l).toList == S.toList) = false := by
   rw [beq_str _ _ _ hb]
   cases l with
   | nil => rcases h45 with h | h <;> cases h
   | cons t r =>
    unfold isSign at hs
    rw [Bool.and_eq_false_iff] at hs
    rcases hs with hs | hs
    ·rw [Bool.or_eq_false_iff, beq_eq_false_iff_ne, beq_eq_false_iff_ne] at hs
     rcases h45 with h | h
     ·exact absurd h hs.1
     ·exact absurd h hs.2
    ·exact hs
  clear h hs hb
  rcases h45 with h4 | h4
  all_goals
   go_enter Try.func35, Try.ntmps35
   go_wp2_with first | (go_at_call 16; go_must (refine (kind_any _ rp H.out).mono ?_); rintro e w1 ⟨rfl, hk1⟩; rw [h4]; have HK1 := hid hk1; clear hk1) | (go_at_call 47; go_must (refine (text_any _ rp (H.out.kp HK1.out)).mono ?_); rintro e w2 ⟨rfl, hk2⟩; have HK2 := hid hk2; clear hk2)
   go_ret
   exact ⟨rfl, HK1.out.trans HK2.out⟩
 ·obtain ⟨k, hk⟩ : ∃ k, kindOf l = k := ⟨_, rfl⟩
  rw [hk] at h45
  have t4 : (k == 4) = false := by rw [beq_eq_false_iff_ne]; omega
  have t5 : (k == 5) = false := by rw [beq_eq_false_iff_ne]; omega
  clear h hs hb h45
  go_enter Try.func35, Try.ntmps35
  go_wp2_with (go_at_call 16; go_must (refine (kind_any _ rp H.out).mono ?_); rintro e w1 ⟨rfl, hk1⟩; rw [hk]; have HK1 := hid hk1; clear hk1)
  go_ret
  exact ⟨rfl, HK1.out⟩
theorem isSign_head {b : Bs} (h : isSign b l = true) : ∃ t r, l = t :: r ∧ (t.1 = 4 ∨ t.1 = 5) ∧ (t.2.data.toList == b) = true := by
 cases l with
 | nil => cases h
 | cons t r =>
  unfold isSign at h
  rw [Bool.and_eq_true, Bool.or_eq_true, beq_iff_eq, beq_iff_eq] at h
  exact ⟨t, r, rfl, h.1, h.2⟩
theorem adv_val (n : Nat) (hn : n ≤ 2000) : IntKind.i64.wrap ((n : Int) + 1) = ((n + 1 : Nat) : Int) := by rw [IntKind.wrap_i64]; omega
theorem sign_yes (w : World) (rp : Nat) (S : ByteArray) (b : Bs) (hb : S.data.toList = b) (h : PrsV w rp L l ps s lv tv) (hs : isSign b l = true) : Calls Try.prog 35 #[.pointer (some ⟨rp, 0, none⟩), .string S] w fun e w' => e = .returned (.bool true) ∧ PrsV w' rp L l.tail ps (s + 2) lv tv ∧ w.grownBy w' (some rp) := by
 have H := hid h.e
 obtain ⟨t, r, rfl, h45, hx⟩ := isSign_head hs
 obtain ⟨n, hp⟩ := h
 have HP := hid hp
 have n2 := hp.n_le
 have hx : (t.2.toList == S.toList) = true := (beq_str _ _ _ hb).trans hx
 have kw := adv_val n n2
 clear hs hb hp
 obtain ⟨k, x⟩ := t
 rcases h45 with h4 | h4
 all_goals
  simp only at h4 hx
  subst h4
  go_enter Try.func35, Try.ntmps35
  go_wp2_with first | (go_at_call 16; go_must (refine (kind_any _ rp H.out).mono ?_); rintro e w1 ⟨rfl, hk1⟩; unfold kindOf; have HK1 := hid hk1; clear hk1) | (go_at_call 47; go_must (refine (text_any _ rp (H.out.kp HK1.out)).mono ?_); rintro e w2 ⟨rfl, hk2⟩; unfold textOf; have HK2 := hid hk2; have hp2 := HP.out.kp (HK1.out.trans hk2); have HP2 := hid hp2; have c1 := hp2.c1; have f1 := hp2.fz 1; clear hk2 hp2)
  go_ret
  exact ⟨rfl, ⟨_, HP2.out.adv⟩, (grown_kp (HK1.out.trans HK2.out) _).trans (grown_setCell _)⟩
theorem looks_any (w : World) (rp : Nat) (S : ByteArray) (b : Bs) (hb : S.data.toList = b) (h : PrsE w rp L l ps s) : Calls Try.prog 49 #[.pointer (some ⟨rp, 0, none⟩), .string S] w fun e w' => e = .returned (.bool (isSign b l)) ∧ Kp w w' := by
 have H := hid h
 by_cases h45 : kindOf l = 4 ∨ kindOf l = 5
 ·obtain ⟨x, hx⟩ : ∃ x, ((textOf l).toList == S.toList) = x := ⟨_, rfl⟩
  have HS := hid (show isSign b l = x by
   cases l with
   | nil => rcases h45 with h | h <;> cases h
   | cons t r =>
    have h45 : t.1 = 4 ∨ t.1 = 5 := h45
    rw [← hx, beq_str _ _ _ hb]
    show ((t.1 == 4 || t.1 == 5) && t.2.data.toList == b) = (t.2.data.toList == b)
    rcases h45 with h | h <;> (rw [h]; rfl))
  clear h hb
  rcases h45 with h4 | h4
  all_goals
   go_enter Try.func49, Try.ntmps49
   go_wp2_with first | (go_at_call 16; go_must (refine (kind_any _ rp H.out).mono ?_); rintro e w1 ⟨rfl, hk1⟩; rw [h4]; have HK1 := hid hk1; clear hk1) | (go_at_call 47; go_must (refine (text_any _ rp (H.out.kp HK1.out)).mono ?_); rintro e w2 ⟨rfl, hk2⟩; have HK2 := hid hk2; clear hk2)
   go_ret
   exact ⟨ret_bool HS.out.symm, HK1.out.trans HK2.out⟩
 ·obtain ⟨k, hk⟩ : ∃ k, kindOf l = k := ⟨_, rfl⟩
  rw [hk] at h45
  have t4 : (k == 4) = false := by rw [beq_eq_false_iff_ne]; omega
  have t5 : (k == 5) = false := by rw [beq_eq_false_iff_ne]; omega
  have HS := hid (show isSign b l = false by
   cases l with
   | nil => rfl
   | cons t r =>
    have hk : t.1 = k := hk
    show ((t.1 == 4 || t.1 == 5) && t.2.data.toList == b) = false
    rw [hk, t4, t5]; rfl)
  clear h hb h45
  go_enter Try.func49, Try.ntmps49
  go_wp2_with (go_at_call 16; go_must (refine (kind_any _ rp H.out).mono ?_); rintro e w1 ⟨rfl, hk1⟩; rw [hk]; have HK1 := hid hk1; clear hk1)
  go_ret
  exact ⟨ret_bool HS.out.symm, HK1.out⟩
theorem want_yes (w : World) (rp : Nat) (S : ByteArray) (b : Bs) (hb : S.data.toList = b) (h : PrsV w rp L l ps s lv tv) (hs : isSign b l = true) : Calls Try.prog 17 #[.pointer (some ⟨rp, 0, none⟩), .string S] w fun e w' => e = .returned (.tuple #[]) ∧ PrsV w' rp L l.tail ps (s + 2) lv tv ∧ w.grownBy w' (some rp) := by
 have H := hid h; have HS := hid hs
 clear h hs
 go_enter Try.func17, Try.ntmps17
 go_wp2_with (go_at_call 35; go_must (refine (sign_yes _ rp S b hb H.out HS.out).mono ?_); rintro e w1 ⟨rfl, hp1, hk1⟩; have HP1 := hid hp1; have HK1 := hid hk1; clear hp1 hk1)
 first | go_end0 | refine bodyPost_ret (results_none rfl _ _ _) rfl ?_
 exact ⟨rfl, HP1.out, HK1.out⟩
theorem want_no (w : World) (rp : Nat) (S : ByteArray) (b : Bs) (hb : S.data.toList = b) (h : PrsE w rp L l ps s) (hs : isSign b l = false) : Calls Try.prog 17 #[.pointer (some ⟨rp, 0, none⟩), .string S] w fun e w' => e = stopP ∧ Kp w w' := by
 have H := hid h; have HS := hid hs
 clear h hs
 go_enter Try.func17, Try.ntmps17
 go_wp2_with first | (go_at_call 35; go_must (refine (sign_no _ rp S b hb H.out HS.out).mono ?_); rintro e w1 ⟨rfl, hk1⟩; have HK1 := hid hk1; clear hk1) | (go_at_call 20; go_must (refine (fail_any _ _).mono ?_); rintro e w2 ⟨rfl, hk2⟩; unfold stopP; have HK2 := hid hk2; clear hk2)
 exact ⟨rfl, rfl, HK1.out.trans HK2.out⟩
theorem name_no (w : World) (rp : Nat) (h : PrsE w rp L l ps s) (hs : kindOf l ≠ 1) : Calls Try.prog 18 #[.pointer (some ⟨rp, 0, none⟩)] w fun e w' => e = stopP ∧ Kp w w' := by
 have H := hid h
 obtain ⟨k, hk⟩ : ∃ k, kindOf l = k := ⟨_, rfl⟩
 have t1 : (k != 1) = true := by rw [bne_iff_ne]; rw [← hk]; exact hs
 have t2 : (k == 1) = false := by rw [beq_eq_false_iff_ne]; rw [← hk]; exact hs
 clear h hs
 go_enter Try.func18, Try.ntmps18
 go_wp2_with first | (go_at_call 16; go_must (refine (kind_any _ rp H.out).mono ?_); rintro e w1 ⟨rfl, hk1⟩; rw [hk]; have HK1 := hid hk1; clear hk1) | (go_at_call 20; go_must (refine (fail_any _ _).mono ?_); rintro e w2 ⟨rfl, hk2⟩; unfold stopP; have HK2 := hid hk2; clear hk2)
 exact ⟨rfl, rfl, HK1.out.trans HK2.out⟩
theorem name_yes (w : World) (rp : Nat) (h : PrsV w rp L l ps s lv tv) (hs : kindOf l = 1) : Calls Try.prog 18 #[.pointer (some ⟨rp, 0, none⟩)] w fun e w' => e = .returned (.string (textOf l)) ∧ PrsV w' rp L l.tail ps (s + 2) lv tv ∧ w.grownBy w' (some rp) := by
 have H := hid h.e
 cases l with
 | nil => cases hs
 | cons t r =>
  obtain ⟨n, hp⟩ := h
  have HP := hid hp
  have n2 := hp.n_le
  have kw := adv_val n n2
  obtain ⟨n1, hn1⟩ : ∃ k, n + 1 = k := ⟨_, rfl⟩
  rw [hn1] at kw
  have HN1 := hid hn1
  have hs : t.1 = 1 := hs
  clear hn1
  clear hp
  go_enter Try.func18, Try.ntmps18
  go_upto_region 4 with (go_at_call 16; go_must (refine (kind_any _ rp H.out).mono ?_); rintro e w1 ⟨rfl, hk1⟩; unfold kindOf; simp only [hs]; have HK1 := hid hk1; have hp1 := HP.out.kp hk1; have HP1 := hid hp1; have c1 := hp1.c1; have f1 := hp1.fz 1; clear hk1 hp1)
  clear c1 f1
  have HW := hid ((grown_kp HK1.out (some rp)).trans (grown_setCell (b := rp) (o := 1) (.int .i64 (n1 : Int))))
  have hn1 := HN1.out
  have hp2 := HP1.out.adv
  rw [hn1] at hp2
  obtain ⟨hn, b, off, cc, m, e, hb1, hb2, _, _, g0, g1, _, _, _⟩ := HP1.out.tok
  subst e
  have g1 : (w1.setCell ⟨rp, 1, none⟩ (.int .i64 (n1 : Int))).cell? ⟨b, off + n * 4 + 1, none⟩ = some (.string t.2) := (World.cell?_of_block (blk_far (p := ⟨rp, 1, none⟩) (show b ≠ rp by omega) _)).trans g1
  have c0 := hp2.c0; have c1 := hp2.c1; have lt := hp2.rp_lt
  have hb2 := Nat.lt_trans hb1 lt
  have j1 : IntKind.i64.wrap ((n1 : Int) - 1) = (n : Int) := by rw [IntKind.wrap_i64]; omega
  have j2 : (n : Int) < (L.length : Int) := by omega
  obtain ⟨N, hN⟩ : ∃ N, L.length = N := ⟨_, rfl⟩
  rw [hN] at c0 j2
  have HP2 := hid hp2
  clear hp2 g0 hn hN kw hn1
  generalize w1.setCell ⟨rp, 1, none⟩ (.int .i64 (n1 : Int)) = W2 at c0 c1 lt g1 hb2 HP2 HW ⊢
  refine wp_region_kp [[], [0], [1], [2], [], [4], [5], [6], [7], [3, 8], [9], [10], [11]] (fun u => Kp W2 u)
   [eqV (.pointer (some ⟨rp, 0, none⟩)), eqV (.pointer (some ⟨rp, 0, none⟩)), eqV (.pointer (some ⟨rp, 0, none⟩)), eqV (.slice (some ⟨b, off, none⟩) N cc), eqV (.pointer (some ⟨rp, 0, none⟩)), eqV (.pointer (some ⟨rp, 0, none⟩)), eqV (.pointer (some ⟨rp, 1, none⟩)), eqV (.int .i64 (n1 : Int)), eqV (.int .i64 (n : Int)), eqV (.pointer (some ⟨b, off + n * 4, none⟩)), eqV (.pointer (some ⟨b, off + n * 4 + 1, none⟩)), eqV (.string t.2), eqV (.string t.2)]
   (by kernel_rfl) (by kernel_rfl) (by kernel_rfl) (by kernel_rfl) ((Kp.refl _).drew) (fun _ _ hk h => h.trans hk) (by repeat' first | exact trivial | refine ⟨fun _ _ _ _ h => h, ?_⟩) ⟨?sh0, ?sh1, ?sh2, ?sh3, ?sh4, ?sh5, ?sh6, ?sh7, ?sh8, ?sh9, ?sh10, ?sh11, ?sh12, trivial⟩ ?hEh
  case sh0 | sh4 => exact OpStepK.mv 0 (.pointer (some ⟨rp, 0, none⟩)) (by kernel_rfl) (free_ (by kernel_rfl)) (fun _ _ _ => by kernel_rfl) (fun _ => rfl)
  case sh1 => exact OpStepK.op1 15 (.pointer (some ⟨rp, 0, none⟩)) (free_ (by kernel_rfl)) (fun x _ h => Eq.trans (b := some (x 0)) (by kernel_rfl) (congrArg some h.1)) fun a u e15 hg K hK => (by go_simp; exact hK.out _ _ (Kp.refl _) rfl)
  case sh2 => exact OpStepK.op1 16 (.pointer (some ⟨rp, 0, none⟩)) (free_ (by kernel_rfl)) (fun x _ h => Eq.trans (b := some (x 1)) (by kernel_rfl) (congrArg some h.1)) fun a u e16 hg K hK => (by go_simp; exact hK.out _ _ (Kp.refl _) rfl)
  case sh3 => exact OpStepK.op1 17 (.pointer (some ⟨rp, 0, none⟩)) (free_ (by kernel_rfl)) (fun x _ h => Eq.trans (b := some (x 2)) (by kernel_rfl) (congrArg some h.1)) fun a u e17 hg K hK => (by have q0 := cell_kp hg lt c0; go_simp; exact hK.out _ _ (Kp.refl _) rfl)
  case sh5 => exact OpStepK.op1 19 (.pointer (some ⟨rp, 0, none⟩)) (free_ (by kernel_rfl)) (fun x _ h => Eq.trans (b := some (x 4)) (by kernel_rfl) (congrArg some h.1)) fun a u e19 hg K hK => (by go_simp; exact hK.out _ _ (Kp.refl _) rfl)
  case sh6 => exact OpStepK.op1 20 (.pointer (some ⟨rp, 0, none⟩)) (free_ (by kernel_rfl)) (fun x _ h => Eq.trans (b := some (x 5)) (by kernel_rfl) (congrArg some h.1)) fun a u e20 hg K hK => (by go_simp; exact hK.out _ _ (Kp.refl _) rfl)
  case sh7 => exact OpStepK.op1 21 (.pointer (some ⟨rp, 1, none⟩)) (free_ (by kernel_rfl)) (fun x _ h => Eq.trans (b := some (x 6)) (by kernel_rfl) (congrArg some h.1)) fun a u e21 hg K hK => (by have q0 := cell_kp hg lt c1; go_simp; exact hK.out _ _ (Kp.refl _) rfl)
  case sh8 => exact OpStepK.op1 22 (.int .i64 (n1 : Int)) (free_ (by kernel_rfl)) (fun x _ h => Eq.trans (b := some (x 7)) (by kernel_rfl) (congrArg some h.1)) fun a u e22 hg K hK => (by go_simp; exact hK.out _ _ (Kp.refl _) rfl)
  case sh9 => exact OpStepK.op2 18 23 (.slice (some ⟨b, off, none⟩) N cc) (.int .i64 (n : Int)) (free_ (by kernel_rfl)) (fun x _ h => Eq.trans (b := some (x 3)) (by kernel_rfl) (congrArg some h.1)) (fun x _ h => Eq.trans (b := some (x 8)) (by kernel_rfl) (congrArg some h.2.1)) fun a u e18 e23 hg K hK => (by go_simp; exact hK.out _ _ (Kp.refl _) rfl)
  case sh10 => exact OpStepK.op1 24 (.pointer (some ⟨b, off + n * 4, none⟩)) (free_ (by kernel_rfl)) (fun x _ h => Eq.trans (b := some (x 9)) (by kernel_rfl) (congrArg some h.1)) fun a u e24 hg K hK => (by go_simp; exact hK.out _ _ (Kp.refl _) rfl)
  case sh11 => exact OpStepK.op1 25 (.pointer (some ⟨b, off + n * 4 + 1, none⟩)) (free_ (by kernel_rfl)) (fun x _ h => Eq.trans (b := some (x 10)) (by kernel_rfl) (congrArg some h.1)) fun a u e25 hg K hK => (by have q0 := cell_kp hg hb2 g1; go_simp; exact hK.out _ _ (Kp.refl _) rfl)
  case sh12 => exact OpStepK.as 26 (.string t.2) (by kernel_rfl) (free_ (by kernel_rfl)) (fun x _ h => Eq.trans (b := x 11) (by kernel_rfl) h.1) (fun _ => rfl)
  intro x u hg he
  obtain ⟨d0, d1, d2, d3, d4, d5, d6, d7, d8, d9, d10, d11, d12, -⟩ := he
  refine ⟨?_⟩
  simp only [putsFrom, Act.put, List.setIfInBounds_toArray, List.set_cons_zero, List.set_cons_succ, Nat.reduceAdd, d0, d1, d2, d3, d4, d5, d6, d7, d8, d9, d10, d11, d12]
  clear d0 d1 d2 d3 d4 d5 d6 d7 d8 d9 d10 d11 d12
  have HG := hid hg
  clear hg
  go_wp2
  go_ret
  exact ⟨rfl, ⟨_, HP2.out.kp HG.out⟩, HW.out.trans (grown_kp HG.out _)⟩
theorem elNodeS : El Try.prog 22 37 (.agg #[.int .i64 0, .string ⟨#[]⟩, .string ⟨#[]⟩, .int .i64 0, .slice none 0 0]) 5 72 := El.mk_ Try.underlying22 (by kernel_rfl) rfl (by omega)
theorem CeG.touch {base : Nat} {w w' : World} {cs : List Value} {p : GNode} (h : CeG base w cs p) (ht : Touch 37 w w') : CeG base w' cs p := h.setr ht (by decide)
theorem pk_of {rp : Nat} {w w' : World} (h : Touch 37 w w') (hb : Below rp w w') : Pk rp w w' := ⟨hb, fun k o h1 _ h2 => h.2 k o h1 h2⟩
theorem put_b1 (k : Nat) (h : k ≤ 4001) : k + 1 ≤ maxLen := by unfold maxLen; omega
theorem put_b2 (k : Nat) (h : k ≤ 4001) : (k + 1) * 72 ≤ 140737488355328 := by omega
theorem put_j1 (k : Nat) (h : k ≤ 4001) : IntKind.i64.wrap (((k + 1 : Nat) : Int) - 1) = (k : Int) := by rw [IntKind.wrap_i64]; omega
theorem put_j2 (k : Nat) (h : k ≤ 4001) : IntKind.i64.wrap ((k : Int) + 1 - 1) = (k : Int) := by rw [IntKind.wrap_i64]; omega
theorem put_j3 (k : Nat) (h : k ≤ 4001) : wrap64 (k : Int) = (k : Int) := by unfold wrap64; omega
theorem Prs.put {w w' : World} {rp n : Nat} {lv tv tv2 : Value} {g : GNode} (h : Prs w rp L l ps (s + 1) lv tv n) (ht : Touch 37 w w') (hb : Below rp w w') (ho : OwnL (CeG rp) 5 37 w' rp tv2 (ps ++ [g])) (hg : ∀ b, g.2.ownBlock = some b → b ∉ gBlks ps) : Prs (w'.setCell ⟨rp, 2, none⟩ tv2) rp L l (ps ++ [g]) s lv tv2 n := by
 have hbk := ht.2 rp _ h.blk (fun cs fr e => by injection e with _ e _; exact absurd e (by decide))
 have hts := rowTouch (o := 2) hbk tv2
 obtain ⟨w0, h1, h2, h3⟩ := h.toks
 refine ⟨blk_set hbk _, ⟨w0, h1, h2, (Below.trans h3 hb).setCell (Nat.le_refl _) _⟩, tree_touch ho hts (by decide) (by decide), h.here, h.rest, ?_, ?_, h.lt⟩
 ·rw [gBlks_app, List.nodup_append]
  refine ⟨h.nd, ?_, ?_⟩
  ·cases hq : g.2.ownBlock <;> simp [gBlks, hq]
  ·intro a ha b hb2 e
   subst e
   simp only [gBlks, List.filterMap_cons, List.filterMap_nil] at hb2
   cases hq : g.2.ownBlock with
   | none => rw [hq] at hb2; cases hb2
   | some c =>
    rw [hq] at hb2
    simp only [List.mem_singleton] at hb2
    subst hb2
    exact hg _ hq ha
 ·have := h.bd; simp; omega
theorem put_any (w : World) (rp : Nat) (g : GNode) (h : PrsE w rp L l ps (s + 1)) (ho : OwnI w rp g.2 g.1.kids) (hg : ∀ b, g.2.ownBlock = some b → b ∉ gBlks ps) (hok : okN g.1) : Calls Try.prog 21 #[.pointer (some ⟨rp, 0, none⟩), .agg #[.int .i64 g.1.kind, .string g.1.text, .string g.1.type_, .int .i64 g.1.num, g.2]] w fun e w' => e = .returned (.int .i64 (ps.length : Int)) ∧ PrsE w' rp L l (ps ++ [g]) s ∧ Pk rp w w' := by
 obtain ⟨lv, tv, n, h⟩ := h
 obtain ⟨nd, kv⟩ := g
 obtain ⟨Ak, ck, hkv⟩ := own_form ho
 obtain ⟨A, cap, rfl⟩ := h.tform
 have ho : OwnI w rp kv nd.kids := ho
 have hkv : kv = .slice Ak nd.kids.length ck := hkv
 subst hkv
 obtain ⟨NK, hK⟩ : ∃ NK, nd.kids.length = NK := ⟨_, rfl⟩
 rw [hK] at ho hg ⊢
 have HG0 := hid hg
 have HOK := hid hok
 have HRP := hid h.le
 obtain ⟨W, hW⟩ : ∃ W, w.alloc (.cells #[.int .i64 nd.kind, .string nd.text, .string nd.type_, .int .i64 nd.num, .slice Ak NK ck] 37) = W := ⟨_, rfl⟩
 have hkW : Kp w W := by rw [← hW]; exact (Kp.refl _).alloc _
 have HKW := hid hkW
 have H := hid (h.kp hkW)
 have HO := hid (show OwnI W rp (.slice Ak NK ck) nd.kids from ownsRow_keep ho hkW)
 have hblk : W.heap[w.heap.size]? = some (.cells #[.int .i64 nd.kind, .string nd.text, .string nd.type_, .int .i64 nd.num, .slice Ak NK ck] 37 (0, 0)) := by rw [← hW]; exact blk_new w _
 have HBN := hid hblk
 obtain ⟨nb, hnb⟩ : ∃ nb, w.heap.size = nb := ⟨_, rfl⟩
 have hge : rp ≤ W.heap.size := (h.kp hkW).le
 have HGE := hid hge
 obtain ⟨xs, hxs, hch⟩ := (h.kp hkW).tree
 have HXS := hid hxs; have HCH := hid hch
 have BDR := hid (show ∀ g, (Value.slice A ps.length cap).ownBlock = some g → g < W.heap.size from fun g hg => (World.ownsRow.lt hxs g hg).2)
 have hbd := h.bd
 have hlen : ps.length ≤ 4001 := by omega
 have B1 := hid (put_b1 _ hlen)
 have B2 := hid (put_b2 _ hlen)
 have j1 := put_j1 _ hlen
 have j3 := put_j3 _ hlen
 have j2 := put_j2 _ hlen
 clear h ho hg hok hkW hblk hge hxs hch hbd hlen
 go_enter Try.func21, Try.ntmps21
 go_upto_region 1 with fail
 clear hW
 rw [hnb] at HBN
 clear hnb
 refine wp_region_phase [7, 10] [(0, 1), (0, 0), (0, 0), (0, 0), (0, 0), (0, 0), (0, 0), (0, 0), (0, 1), (0, 1), (0, 0)] (KpF W.heap.size) [[], [], [1], [2], [3], [], [5], [4, 6], [0], [8], [7, 9]]
  (fun (p : Nat) (x : Nat → Value) (u : World) => match p with | 0 => Kp W u | 1 => Touch 37 W u ∧ OwnL (CeG rp) 5 37 u rp (x 7) (ps ++ [(nd, .slice Ak NK ck)]) ∧ Below rp W u | _ => (∃ tv2, Prs u rp L l (ps ++ [(nd, .slice Ak NK ck)]) s lv tv2 n) ∧ Pk rp W u)
  [fun (y : Value) (u : World) => y = (.pointer (some ⟨rp, 0, none⟩) : Value),
  fun (y : Value) (u : World) => y = (.pointer (some ⟨rp, 0, none⟩) : Value),
  fun (y : Value) (u : World) => y = (.pointer (some ⟨rp, 0, none⟩) : Value),
  fun (y : Value) (u : World) => y = (.pointer (some ⟨rp, 2, none⟩) : Value),
  fun (y : Value) (u : World) => y = (.slice A ps.length cap : Value),
  fun (y : Value) (u : World) => y = (.agg #[.int .i64 nd.kind, .string nd.text, .string nd.type_, .int .i64 nd.num, .slice Ak NK ck] : Value),
  fun (y : Value) (u : World) => LitAt W.heap.size 37 #[.int .i64 nd.kind, .string nd.text, .string nd.type_, .int .i64 nd.num, .slice Ak NK ck] y u,
  fun (y : Value) (u : World) => True,
  fun (y : Value) (u : World) => y = (.pointer (some ⟨rp, 0, none⟩) : Value),
  fun (y : Value) (u : World) => y = (.pointer (some ⟨rp, 2, none⟩) : Value),
  fun (y : Value) (u : World) => True]
  (by kernel_rfl) (by kernel_rfl) (by kernel_rfl) (by kernel_rfl) (by kernel_rfl) (by kernel_rfl) (fun _ _ hk => KpF.of_kp hk) ((Kp.refl W).drew) ?hKi ?hXi ⟨fun _ _ _ _ h => h, fun _ _ _ _ h => h, fun _ _ _ _ h => h, fun _ _ _ _ h => h, fun _ _ _ _ h => h, fun _ _ _ _ h => h, fun _ _ _ hk h => h.keep hk, fun _ _ _ _ _ => trivial, fun _ _ _ _ h => h, fun _ _ _ _ h => h, fun _ _ _ _ _ => trivial, trivial⟩ ⟨?si0, ?si1, ?si2, ?si3, ?si4, ?si5, ?si6, ?si7, ?si8, ?si9, ?si10, trivial⟩ ?hEi
 case hKi =>
  intro p x w w' hk h
  rcases p with _ | _ | p
  ·exact h.trans hk
  ·exact ⟨h.1.trans (Touch.of_kp hk), h.2.1.kp CeG.kp hk, Below.trans h.2.2 (Below.mono hk (Nat.le_trans HGE.out h.2.2.size))⟩
  ·exact ⟨by obtain ⟨o2, h1⟩ := h.1; exact ⟨o2, h1.kp hk⟩, h.2.trans (Pk.of_kp hk (Nat.le_trans HGE.out h.2.le))⟩
 case hXi =>
  intro p x i v w hi h
  have e0 : upd x i v 7 = x 7 := if_neg (fun hh => hi (by rw [← hh]; decide))
  have e1 : upd x i v 10 = x 10 := if_neg (fun hh => hi (by rw [← hh]; decide))
  rcases p with _ | _ | p
  ·first | exact h | (simp only [e0, e1]; exact h)
  ·first | exact h | (simp only [e0, e1]; exact h)
  ·first | exact h | (simp only [e0, e1]; exact h)
 case si0 =>
  refine OpStepQ.off 0 1 (by kernel_rfl) (by kernel_rfl) ?_
  intro x u p hp hg hd K hK
  clear hd
  refine ⟨?_⟩
  simp only [putsFrom, Act.put, List.setIfInBounds_toArray, List.set_cons_zero, List.set_cons_succ, Nat.reduceAdd] at hK ⊢
  go_simp
  exact hK.out _ _ (Kp.refl _) rfl
 case si1 =>
  refine OpStepQ.off 0 0 (by kernel_rfl) (by kernel_rfl) ?_
  intro x u p hp hg hd K hK
  obtain rfl : p = 0 := by omega
  change Kp W u at hg
  clear hd
  refine ⟨?_⟩
  simp only [putsFrom, Act.put, List.setIfInBounds_toArray, List.set_cons_zero, List.set_cons_succ, Nat.reduceAdd] at hK ⊢
  go_simp
  exact hK.out _ _ (Kp.refl _) rfl
 case si2 =>
  refine OpStepQ.off 0 0 (by kernel_rfl) (by kernel_rfl) ?_
  intro x u p hp hg hd K hK
  obtain rfl : p = 0 := by omega
  change Kp W u at hg
  have d1 : (x 1) = .pointer (some ⟨rp, 0, none⟩) := hd.1
  clear hd
  refine ⟨?_⟩
  simp only [putsFrom, Act.put, List.setIfInBounds_toArray, List.set_cons_zero, List.set_cons_succ, Nat.reduceAdd, d1] at hK ⊢
  go_simp
  exact hK.out _ _ (Kp.refl _) rfl
 case si3 =>
  refine OpStepQ.off 0 0 (by kernel_rfl) (by kernel_rfl) ?_
  intro x u p hp hg hd K hK
  obtain rfl : p = 0 := by omega
  change Kp W u at hg
  have d2 : (x 2) = .pointer (some ⟨rp, 0, none⟩) := hd.1
  clear hd
  refine ⟨?_⟩
  simp only [putsFrom, Act.put, List.setIfInBounds_toArray, List.set_cons_zero, List.set_cons_succ, Nat.reduceAdd, d2] at hK ⊢
  go_simp
  exact hK.out _ _ (Kp.refl _) rfl
 case si4 =>
  refine OpStepQ.off 0 0 (by kernel_rfl) (by kernel_rfl) ?_
  intro x u p hp hg hd K hK
  obtain rfl : p = 0 := by omega
  change Kp W u at hg
  have d3 : (x 3) = .pointer (some ⟨rp, 2, none⟩) := hd.1
  clear hd
  have q9 := cell_kp hg H.out.rp_lt H.out.c2
  refine ⟨?_⟩
  simp only [putsFrom, Act.put, List.setIfInBounds_toArray, List.set_cons_zero, List.set_cons_succ, Nat.reduceAdd, d3] at hK ⊢
  go_simp
  exact hK.out _ _ (Kp.refl _) rfl
 case si5 =>
  refine OpStepQ.off 0 0 (by kernel_rfl) (by kernel_rfl) ?_
  intro x u p hp hg hd K hK
  obtain rfl : p = 0 := by omega
  change Kp W u at hg
  clear hd
  have q0 := cell_kp hg (blk_lt HBN.out) (blk_cell (o := 0) (v := Value.int .i64 nd.kind) HBN.out rfl)
  have q1 := cell_kp hg (blk_lt HBN.out) (blk_cell (o := 1) (v := Value.string nd.text) HBN.out rfl)
  have q2 := cell_kp hg (blk_lt HBN.out) (blk_cell (o := 2) (v := Value.string nd.type_) HBN.out rfl)
  have q3 := cell_kp hg (blk_lt HBN.out) (blk_cell (o := 3) (v := Value.int .i64 nd.num) HBN.out rfl)
  have q4 := cell_kp hg (blk_lt HBN.out) (blk_cell (o := 4) (v := Value.slice Ak NK ck) HBN.out rfl)
  refine ⟨?_⟩
  simp only [putsFrom, Act.put, List.setIfInBounds_toArray, List.set_cons_zero, List.set_cons_succ, Nat.reduceAdd] at hK ⊢
  go_simp
  exact hK.out _ _ (Kp.refl _) rfl
 case si6 =>
  refine OpStepQ.off 0 0 (by kernel_rfl) (by kernel_rfl) ?_
  intro x u p hp hg hd K hK
  obtain rfl : p = 0 := by omega
  change Kp W u at hg
  have d5 : (x 5) = .agg #[.int .i64 nd.kind, .string nd.text, .string nd.type_, .int .i64 nd.num, .slice Ak NK ck] := hd.1
  clear hd
  refine ⟨?_⟩
  simp only [putsFrom, Act.put, List.setIfInBounds_toArray, List.set_cons_zero, List.set_cons_succ, Nat.reduceAdd, d5] at hK ⊢
  go_simp
  exact hK.out _ _ ((Kp.refl _).alloc _) ⟨_, rfl, hg.le, blk_new _ _⟩
 case si7 =>
  refine OpStepQ.on 0 (by kernel_rfl) (by kernel_rfl) ?_
  intro x u hg hd K hK
  change Kp W u at hg
  have d4 : (x 4) = .slice A ps.length cap := hd.1
  have d6 : LitAt W.heap.size 37 #[.int .i64 nd.kind, .string nd.text, .string nd.type_, .int .i64 nd.num, .slice Ak NK ck] (x 6) u := hd.2.1
  clear hd
  obtain ⟨b, e6, hb6, hlit⟩ := d6
  have hown : u.ownsRow rp 37 5 (.slice A ps.length cap) ps.length xs := ownsRow_keep HXS.out hg
  refine ⟨?_⟩
  simp only [putsFrom, Act.put, List.setIfInBounds_toArray, List.set_cons_zero, List.set_cons_succ, Nat.reduceAdd, d4, e6] at hK ⊢
  rw [if_pos (by simp [Region.wanted])]
  refine wp_appP elNodeS (.tmp 9) (.tmp 11) (by rfl) hown (by rfl) [.int .i64 nd.kind, .string nd.text, .string nd.type_, .int .i64 nd.num, .slice Ak NK ck] _ 1 1 (by rfl) rfl (fun _ => ⟨_, rfl, lit_src hlit⟩) (by intro z hz; simp at hz; rcases hz with rfl | rfl | rfl | rfl | rfl <;> rfl) B1.out B2.out (Nat.le_trans HGE.out hg.le) ?_
  intro v' w' G1 G2 G3 G4
  have hT := Touch.of_grown hown G2
  refine hK.out v' w' (KpF.of_grown G2 BDR.out) ⟨(Touch.of_kp hg).trans hT, ?_, Below.trans (Below.mono hg HGE.out) G4⟩ trivial
  exact OwnL.snoc (by rfl) (HCH.out.kp CeG.kp hg) (fun _ _ h => h.touch hT) ⟨rfl, ownsRow_touch (by decide) (ownsRow_keep HO.out hg) hT, HOK.out⟩ rfl G1
 case si8 =>
  refine OpStepQ.off 0 1 (by kernel_rfl) (by kernel_rfl) ?_
  intro x u p hp hg hd K hK
  have d0 : (x 0) = .pointer (some ⟨rp, 0, none⟩) := hd.1
  clear hd
  refine ⟨?_⟩
  simp only [putsFrom, Act.put, List.setIfInBounds_toArray, List.set_cons_zero, List.set_cons_succ, Nat.reduceAdd, d0] at hK ⊢
  go_simp
  exact hK.out _ _ (Kp.refl _) rfl
 case si9 =>
  refine OpStepQ.off 0 1 (by kernel_rfl) (by kernel_rfl) ?_
  intro x u p hp hg hd K hK
  have d8 : (x 8) = .pointer (some ⟨rp, 0, none⟩) := hd.1
  clear hd
  refine ⟨?_⟩
  simp only [putsFrom, Act.put, List.setIfInBounds_toArray, List.set_cons_zero, List.set_cons_succ, Nat.reduceAdd, d8] at hK ⊢
  go_simp
  exact hK.out _ _ (Kp.refl _) rfl
 case si10 =>
  refine OpStepQ.on 1 (by kernel_rfl) (by kernel_rfl) ?_
  intro x u hg hd K hK
  change Touch 37 W u ∧ OwnL (CeG rp) 5 37 u rp (x 7) (ps ++ [(nd, .slice Ak NK ck)]) ∧ Below rp W u at hg
  have d9 : (x 9) = .pointer (some ⟨rp, 2, none⟩) := hd.2.1
  clear hd
  obtain ⟨hg1', hg2', hg3'⟩ := hg
  obtain ⟨A7, c7, e7⟩ := own_form hg2'.choose_spec.1
  rw [show (ps ++ [((nd, .slice Ak NK ck) : GNode)]).length = ps.length + 1 by simp] at e7
  have hbu := hg1'.2 rp _ H.out.blk (fun cs fr e => by injection e with _ e _; exact absurd e (by decide))
  have q9 : u.cell? ⟨rp, 2, none⟩ = some (.slice A ps.length cap) := blk_cell hbu rfl
  have qf : u.frozen? ⟨rp, 2, none⟩ = false := blk_free hbu
  have HO2 := hid (H.out.put hg1' hg3' hg2' HG0.out)
  have HG4 := hid (pk_of hg1' hg3')
  have e7' := hid e7
  clear hg1' hg2' hg3' hbu
  refine ⟨?_⟩
  simp only [putsFrom, Act.put, List.setIfInBounds_toArray, List.set_cons_zero, List.set_cons_succ, Nat.reduceAdd, d9, e7] at hK ⊢
  go_simp
  rw [e7'.out] at HO2
  exact hK.out undef _ (KpF.setCell H.out.rp_lt _) ⟨⟨_, HO2.out⟩, HG4.out.trans (Pk.set _)⟩ trivial
 intro x u hg he
 have d0 : (x 0) = .pointer (some ⟨rp, 0, none⟩) := he.1
 have d1 : (x 1) = .pointer (some ⟨rp, 0, none⟩) := he.2.1
 have d2 : (x 2) = .pointer (some ⟨rp, 0, none⟩) := he.2.2.1
 have d3 : (x 3) = .pointer (some ⟨rp, 2, none⟩) := he.2.2.2.1
 have d4 : (x 4) = .slice A ps.length cap := he.2.2.2.2.1
 have d5 : (x 5) = .agg #[.int .i64 nd.kind, .string nd.text, .string nd.type_, .int .i64 nd.num, .slice Ak NK ck] := he.2.2.2.2.2.1
 have d6 : LitAt W.heap.size 37 #[.int .i64 nd.kind, .string nd.text, .string nd.type_, .int .i64 nd.num, .slice Ak NK ck] (x 6) u := he.2.2.2.2.2.2.1
 have d8 : (x 8) = .pointer (some ⟨rp, 0, none⟩) := he.2.2.2.2.2.2.2.2.1
 have d9 : (x 9) = .pointer (some ⟨rp, 2, none⟩) := he.2.2.2.2.2.2.2.2.2.1
 clear he
 change (∃ tv2, Prs u rp L l (ps ++ [(nd, .slice Ak NK ck)]) s lv tv2 n) ∧ Pk rp W u at hg
 refine ⟨?_⟩
 simp only [putsFrom, Act.put, List.setIfInBounds_toArray, List.set_cons_zero, List.set_cons_succ, Nat.reduceAdd, d0, d1, d2, d3, d4, d5, d8, d9]
 clear d0 d1 d2 d3 d4 d5 d8 d9
 obtain ⟨⟨tv2, hcu⟩, hbw⟩ := hg
 have HCU := hid hcu; have HBW := hid hbw
 obtain ⟨A2, c2', rfl⟩ := hcu.tform
 have e2 : (ps ++ [((nd, .slice Ak NK ck) : GNode)]).length = ps.length + 1 := by simp
 have c2 := hcu.c2
 rw [e2] at c2
 clear hcu hbw e2
 go_wp2
 go_ret
 exact ⟨rfl, ⟨_, _, _, HCU.out⟩, (Pk.of_kp HKW.out HRP.out).trans HBW.out⟩
end
end Go.Proofs.Ytcjgagmcnmmfoaa.Pa
namespace Go.Proofs.Ytcjgagmcnmmfoaa.Pa
open Go.RowKit

def Res (w0 : World) (rp : Nat) (L : List TokenM) (ps na : List GNode) (ts : List T) (s : Nat) (kv : Value) (kids : List Int) (r : Pr T) (e : Ending) (w' : World) : Prop := match r with
 | .ok t l' => ∃ k : Nat, e = .returned (.int .i64 (k : Int)) ∧ rootT (ps.length + sizeL ts) t = k ∧ StT w0 rp L l' ps na (ts ++ [t]) s kv kids w'
 | .bad => e = stopP ∧ Below rp w0 w'
 | .out => True
def ResL (w0 : World) (rp : Nat) (L : List TokenM) (ps na : List GNode) (ts : List T) (s : Nat) (r : Pr (List T)) (e : Ending) (w' : World) : Prop := match r with
 | .ok ks l' => ∃ A c, e = .returned (.slice A ks.length c) ∧ StT w0 rp L l' ps na (ts ++ ks) s (.slice A ks.length c) (rootsL (ps.length + sizeL ts) ks) w'
 | .bad => e = stopP ∧ Below rp w0 w'
 | .out => True
section
variable {w0 w w' : World} {rp : Nat} {L : List TokenM} {l l' : List Tk} {ps na : List GNode} {ts us : List T} {s s' : Nat} {kv : Value} {kids : List Int}
theorem Res.ok {r : Pr T} {e : Ending} {t : T} (h : Res w0 rp L ps na ts s kv kids r e w') (hr : r = .ok t l') : ∃ k : Nat, e = .returned (.int .i64 (k : Int)) ∧ rootT (ps.length + sizeL ts) t = k ∧ StT w0 rp L l' ps na (ts ++ [t]) s kv kids w' := by
 subst hr; exact h
theorem Res.bad {r : Pr T} {e : Ending} (h : Res w0 rp L ps na ts s kv kids r e w') (hr : r = .bad) : e = stopP ∧ Below rp w0 w' := by
 subst hr; exact h
theorem ResL.ok {r : Pr (List T)} {e : Ending} {ks : List T} (h : ResL w0 rp L ps na ts s r e w') (hr : r = .ok ks l') : ∃ A c, e = .returned (.slice A ks.length c) ∧ StT w0 rp L l' ps na (ts ++ ks) s (.slice A ks.length c) (rootsL (ps.length + sizeL ts) ks) w' := by
 subst hr; exact h
theorem ResL.bad {r : Pr (List T)} {e : Ending} (h : ResL w0 rp L ps na ts s r e w') (hr : r = .bad) : e = stopP ∧ Below rp w0 w' := by
 subst hr; exact h
theorem StT.below (h : StT w0 rp L l ps na ts s kv kids w) (hb : Below rp w w') : Below rp w0 w' := Below.trans h.low hb
theorem StT.belowK (h : StT w0 rp L l ps na ts s kv kids w) (hb : Kp w w') : Below rp w0 w' := Below.trans h.low (Below.mono hb h.le)
theorem conv {tin : List T} {r : Pr T} {fn : Nat} {a : Array Value} (h : StT w0 rp L l ps na (ts ++ tin) s kv kids w) (H : ∀ P Na, P.length = ps.length + sizeL ts → StT w rp L l P Na tin s nilV [] w → Calls Try.prog fn a w (Res w rp L P Na [] s' nilV [] r)) : Calls Try.prog fn a w (Res w0 rp L ps na ts s' kv kids r) := by
 obtain ⟨nw, P, Na, h1, h2, h3, h4⟩ := h.split
 refine (H P Na h3 h4).mono fun e w' k => ?_
 cases r with
 | ok t l' =>
  obtain ⟨q, k1, kq, k2⟩ := k
  refine ⟨q, k1, by rw [← kq, h3, sizeL, Nat.add_zero], ?_⟩
  exact StT.call (tin := tin) (tout := [t]) h1 h2 h3 k2
 | bad => exact ⟨k.1, h.below k.2⟩
 | out => trivial
theorem t_kind (h : StT w0 rp L l ps na ts s kv kids w) : Calls Try.prog 16 #[.pointer (some ⟨rp, 0, none⟩)] w fun e w' => e = .returned (.int .i64 (kindOf l)) ∧ StT w0 rp L l ps na ts s kv kids w' ∧ Kp w w' := by
 obtain ⟨new, h⟩ := h
 exact (kind_any w rp h.prs).mono fun e w' ⟨h1, h2⟩ => ⟨h1, StT.kp ⟨_, h⟩ h2, h2⟩
theorem t_text (h : StT w0 rp L l ps na ts s kv kids w) : Calls Try.prog 47 #[.pointer (some ⟨rp, 0, none⟩)] w fun e w' => e = .returned (.string (textOf l)) ∧ StT w0 rp L l ps na ts s kv kids w' ∧ Kp w w' := by
 obtain ⟨new, h⟩ := h
 exact (text_any w rp h.prs).mono fun e w' ⟨h1, h2⟩ => ⟨h1, StT.kp ⟨_, h⟩ h2, h2⟩
theorem t_looks (S : ByteArray) (b : Bs) (hb : S.data.toList = b) (h : StT w0 rp L l ps na ts s kv kids w) : Calls Try.prog 49 #[.pointer (some ⟨rp, 0, none⟩), .string S] w fun e w' => e = .returned (.bool (isSign b l)) ∧ StT w0 rp L l ps na ts s kv kids w' ∧ Kp w w' := by
 obtain ⟨new, h⟩ := h
 exact (looks_any w rp S b hb h.prs).mono fun e w' ⟨h1, h2⟩ => ⟨h1, StT.kp ⟨_, h⟩ h2, h2⟩
theorem t_signN (S : ByteArray) (b : Bs) (hb : S.data.toList = b) (h : StT w0 rp L l ps na ts s kv kids w) (hs : isSign b l = false) : Calls Try.prog 35 #[.pointer (some ⟨rp, 0, none⟩), .string S] w fun e w' => e = .returned (.bool false) ∧ StT w0 rp L l ps na ts s kv kids w' ∧ Kp w w' := by
 obtain ⟨new, h⟩ := h
 exact (sign_no w rp S b hb h.prs hs).mono fun e w' ⟨h1, h2⟩ => ⟨h1, StT.kp ⟨_, h⟩ h2, h2⟩
theorem t_sign (S : ByteArray) (b : Bs) (hb : S.data.toList = b) (h : StT w0 rp L l ps na ts s kv kids w) (hs : isSign b l = true) : Calls Try.prog 35 #[.pointer (some ⟨rp, 0, none⟩), .string S] w fun e w' => e = .returned (.bool true) ∧ StT w0 rp L l.tail ps na ts (s + 2) kv kids w' ∧ w.grownBy w' (some rp) := by
 obtain ⟨new, h⟩ := h
 obtain ⟨lv, tv, hv⟩ := h.prs
 exact (sign_yes w rp S b hb hv hs).mono fun e w' ⟨h1, h2, h3⟩ => ⟨h1, StN.step h h2.e (Pk.of_grown h3 h.prs.le), h3⟩
theorem t_want (S : ByteArray) (b : Bs) (hb : S.data.toList = b) (h : StT w0 rp L l ps na ts s kv kids w) (hs : isSign b l = true) : Calls Try.prog 17 #[.pointer (some ⟨rp, 0, none⟩), .string S] w fun e w' => e = .returned (.tuple #[]) ∧ StT w0 rp L l.tail ps na ts (s + 2) kv kids w' ∧ w.grownBy w' (some rp) := by
 obtain ⟨new, h⟩ := h
 obtain ⟨lv, tv, hv⟩ := h.prs
 exact (want_yes w rp S b hb hv hs).mono fun e w' ⟨h1, h2, h3⟩ => ⟨h1, StN.step h h2.e (Pk.of_grown h3 h.prs.le), h3⟩
theorem t_wantN (S : ByteArray) (b : Bs) (hb : S.data.toList = b) (h : StT w0 rp L l ps na ts s kv kids w) (hs : isSign b l = false) : Calls Try.prog 17 #[.pointer (some ⟨rp, 0, none⟩), .string S] w fun e w' => e = stopP ∧ Below rp w0 w' ∧ Kp w w' := by
 have hh := h
 obtain ⟨new, h⟩ := h
 exact (want_no w rp S b hb h.prs hs).mono fun e w' ⟨h1, h2⟩ => ⟨h1, hh.belowK h2, h2⟩
theorem t_name (h : StT w0 rp L l ps na ts s kv kids w) (hs : kindOf l = 1) : Calls Try.prog 18 #[.pointer (some ⟨rp, 0, none⟩)] w fun e w' => e = .returned (.string (textOf l)) ∧ StT w0 rp L l.tail ps na ts (s + 2) kv kids w' ∧ w.grownBy w' (some rp) := by
 obtain ⟨new, h⟩ := h
 obtain ⟨lv, tv, hv⟩ := h.prs
 exact (name_yes w rp hv hs).mono fun e w' ⟨h1, h2, h3⟩ => ⟨h1, StN.step h h2.e (Pk.of_grown h3 h.prs.le), h3⟩
theorem t_nameN (h : StT w0 rp L l ps na ts s kv kids w) (hs : kindOf l ≠ 1) : Calls Try.prog 18 #[.pointer (some ⟨rp, 0, none⟩)] w fun e w' => e = stopP ∧ Below rp w0 w' ∧ Kp w w' := by
 have hh := h
 obtain ⟨new, h⟩ := h
 exact (name_no w rp h.prs hs).mono fun e w' ⟨h1, h2⟩ => ⟨h1, hh.belowK h2, h2⟩
theorem StT.text_ok (h : StT w0 rp L l ps na ts s kv kids w) : (textOf l).size ≤ 140737488351232 := by
 obtain ⟨new, h⟩ := h
 obtain ⟨lv, tv, n, hp⟩ := h.prs
 cases l with
 | nil => decide
 | cons t r =>
  obtain ⟨_, _, _, _, _, _, _, _, _, _, _, _, _, hh, _⟩ := hp.tok
  exact hh
theorem StT.pass (h : StT w0 rp L l ps na ts s kv kids w) (hne : l ≠ []) : ∃ n n1 : Nat, w.cell? ⟨rp, 1, none⟩ = some (.int .i64 (n : Int)) ∧ w.frozen? ⟨rp, 1, none⟩ = false ∧ IntKind.i64.wrap ((n : Int) + 1) = (n1 : Int) ∧ StT w0 rp L l.tail ps na ts (s + 2) kv kids (w.setCell ⟨rp, 1, none⟩ (.int .i64 (n1 : Int))) ∧ Pk rp w (w.setCell ⟨rp, 1, none⟩ (.int .i64 (n1 : Int))) := by
 obtain ⟨new, h⟩ := h
 obtain ⟨lv, tv, n, hp⟩ := h.prs
 cases l with
 | nil => exact absurd rfl hne
 | cons t r => exact ⟨n, n + 1, hp.c1, hp.fz 1, adv_val n hp.n_le, StN.step h ⟨_, _, _, hp.adv⟩ (Pk.set _), Pk.set _⟩
theorem rootsL_bd : ∀ (us : List T) (b : Nat), ∀ x ∈ rootsL b us, 0 ≤ x ∧ x < (b : Int) + sizeL us
 | [], b, x, h => by simp [rootsL] at h
 | t :: r, b, x, h => by
  simp only [rootsL, List.mem_cons] at h
  have h1 := rootT_eq b t
  rcases h with rfl | h
  ·simp only [sizeL]; omega
  ·have := rootsL_bd r _ x h
   simp only [sizeL]; omega
theorem t_put (k : Int) (tx ty : ByteArray) (num : Int) (hk : okI k) (htx : tx.size ≤ 140737488351232) (hty : ty.size ≤ 140737488351232) (hnum : okI num) (h : StT w0 rp L l ps na (ts ++ us) (s + 1) kv (rootsL (ps.length + sizeL ts) us) w) :
  Calls Try.prog 21 #[.pointer (some ⟨rp, 0, none⟩), .agg #[.int .i64 k, .string tx, .string ty, .int .i64 num, kv]] w fun e w' => ∃ q : Nat, e = .returned (.int .i64 (q : Int)) ∧ rootT (ps.length + sizeL ts) (.node k tx ty num us) = q ∧ StT w0 rp L l ps na (ts ++ [.node k tx ty num us]) s nilV [] w' ∧ Pk rp w w' := by
 have hbd := h.bd
 rw [sizeL_app] at hbd
 obtain ⟨new, h⟩ := h
 have hl := congrArg List.length h.is_
 rw [flatL_len, List.length_map, sizeL_app] at hl
 have hlen : (ps ++ na ++ new).length = ps.length + sizeL ts + sizeL us := by simp only [List.length_append] at hl ⊢; omega
 refine (put_any w rp (⟨k, tx, ty, num, rootsL (ps.length + sizeL ts) us⟩, kv) h.prs (own_base h.lo h.kd.own) h.kd.ne ⟨hk, htx, hty, hnum, fun x hx => ?_, ?_⟩).mono ?_
 ·have := rootsL_bd us _ x hx
  unfold okI; omega
 ·have := sizeL_ge us
  show (rootsL _ us).length ≤ _
  rw [rootsL_len]; omega
 ·rintro e w' ⟨rfl, hp, hk'⟩
  refine ⟨_, rfl, hlen.symm, ?_, hk'⟩
  refine ⟨new ++ [(⟨k, tx, ty, num, rootsL (ps.length + sizeL ts) us⟩, kv)], h.lo, by rw [← List.append_assoc]; exact hp, ?_, fun g hg => ?_, h.pk.trans hk', Kd.nil _ _ _⟩
  ·rw [← List.append_assoc, List.map_append, h.is_, flatL_app, flatL_app, List.append_assoc]
   simp [flatL, flat]
  ·rw [gBlks_app, List.mem_append] at hg
   rcases hg with hg | hg
   ·exact h.ge g hg
   ·simp only [gBlks, List.filterMap_cons, List.filterMap_nil] at hg
    cases hq : kv.ownBlock with
    | none => rw [hq] at hg; cases hg
    | some c =>
     rw [hq] at hg
     simp only [List.mem_singleton] at hg
     subst hg
     exact (World.ownsRow.lt h.kd.own _ hq).1
theorem rootsL_snoc (b : Nat) (us : List T) (t : T) : rootsL b (us ++ [t]) = rootsL b us ++ [(rootT (b + sizeL us) t : Int)] := by rw [rootsL_app]; rfl
theorem StT.kid {t : T} {k : Nat} (h : StT w0 rp L l ps na (ts ++ us ++ [t]) s kv (rootsL (ps.length + sizeL ts) us ++ [(k : Int)]) w) (hk : rootT (ps.length + sizeL (ts ++ us)) t = k) : StT w0 rp L l ps na (ts ++ (us ++ [t])) s kv (rootsL (ps.length + sizeL ts) (us ++ [t])) w := by
 rw [rootsL_snoc, Nat.add_assoc, ← sizeL_app, hk, ← List.append_assoc]
 exact h
theorem numOf_ok (t : ByteArray) : okI (numOf t) := by
 unfold numOf
 cases h : readO t.data.toList with
 | none => exact ⟨by decide, by decide⟩
 | some v => exact (readO_some h).1
theorem sayOf_ok (t : ByteArray) : (sayOf t).size ≤ 140737488351232 := by
 unfold sayOf
 cases h : unqO t with
 | none => decide
 | some o => have := unqO_len h; simp [ByteArray.size]; omega
end
end Go.Proofs.Ytcjgagmcnmmfoaa.Pa
namespace Go.Proofs.Ytcjgagmcnmmfoaa.Pa
open Go.RowKit

theorem okI0 : okI 0 := ⟨by decide, by decide⟩
theorem okI1 : okI 1 := ⟨by decide, by decide⟩
theorem eq_false_of_ne_true {b : Bool} (h : ¬ b = true) : b = false := by cases b <;> simp_all
theorem kind_ne {l : List Tk} {k : Int} (h : kindOf l = k) (hk : k ≠ 0) : l ≠ [] := by
 rintro rfl
 exact hk h.symm
section
variable {w0 w w' : World} {rp : Nat} {L : List TokenM} {l l' : List Tk} {ps na : List GNode} {ts us : List T} {s s' q q2 : Nat} {kv : Value} {kids : List Int} {a b : T}
theorem lit1 (h : StT w0 rp L l ps na (ts ++ [a]) s nilV [] w) (hq : rootT (ps.length + sizeL ts) a = q) : StT w0 rp L l ps na (ts ++ [a]) s (.slice (some ⟨w.heap.size, 0, none⟩) 1 1) (rootsL (ps.length + sizeL ts) [a]) (w.alloc (.cells #[.int .i64 (q : Int)] 3)) := by
 have := h.lit [(q : Int)] #[.int .i64 (q : Int)] rfl 1 rfl (by decide)
 rw [← hq] at this ⊢
 exact this
theorem lit2 (h : StT w0 rp L l ps na (ts ++ [a, b]) s nilV [] w) (hq : rootT (ps.length + sizeL ts) a = q) (hq2 : rootT (ps.length + sizeL (ts ++ [a])) b = q2) : StT w0 rp L l ps na (ts ++ [a, b]) s (.slice (some ⟨w.heap.size, 0, none⟩) 2 2) (rootsL (ps.length + sizeL ts) [a, b]) (w.alloc (.cells #[.int .i64 (q : Int), .int .i64 (q2 : Int)] 3)) := by
 have := h.lit [(q : Int), (q2 : Int)] #[.int .i64 (q : Int), .int .i64 (q2 : Int)] rfl 2 rfl (by decide)
 have e : rootsL (ps.length + sizeL ts) [a, b] = [(q : Int), (q2 : Int)] := by
  rw [sizeL_app] at hq2
  simp only [sizeL, Nat.add_zero] at hq2
  simp only [rootsL]
  rw [hq, Nat.add_assoc, hq2]
 rw [e]
 exact this
theorem StT.kids_len (h : StT w0 rp L l ps na (ts ++ us) s kv (rootsL (ps.length + sizeL ts) us) w) : us.length ≤ 4001 := by
 have := h.bd
 rw [sizeL_app] at this
 have := sizeL_ge us
 omega
theorem t_app {ops : Array Oper} {rest : List Oper} {o : Oper} {ac : Act} {Q : Exit → Act → World → Prop} {t : T} (hgd : o.guard = none) (x1 x2 : Operand) (ho : o.op = .call { callee := .builtin .append, args := #[x1, x2], argTypes := #[31, 31] })
  (h : StT w0 rp L l ps na (ts ++ us ++ [t]) s kv (rootsL (ps.length + sizeL ts) us) w) (hq : rootT (ps.length + sizeL (ts ++ us)) t = q) (h1 : ac.eval x1 = kv) (h2 : ac.eval x2 = .slice (some ⟨w.heap.size, 0, none⟩) 1 1)
  (hK : ∀ A c w', StT w0 rp L l ps na (ts ++ (us ++ [t])) s (.slice A (us.length + 1) c) (rootsL (ps.length + sizeL ts) (us ++ [t])) w' → wpList Try.prog ops Q rest (ac.put o.dst (.slice A (us.length + 1) c)) w') :
  wpList Try.prog ops Q (o :: rest) ac (w.alloc (.cells #[.int .i64 (q : Int)] 3)) := by
 have hl : us.length ≤ 4001 := by
  have := h.bd
  rw [sizeL_app, sizeL_app] at this
  have := sizeL_ge us
  omega
 have hsz := h.size
 have hown : w.ownsRow w0.heap.size 3 1 kv us.length ((rootsL (ps.length + sizeL ts) us).map intV) := by
  obtain ⟨nw, hn⟩ := h
  have := hn.kd.own
  unfold OwnI at this
  rw [rootsL_len] at this
  exact this
 refine app_lit elInt hgd x1 x2 ho hown h1 #[.int .i64 (q : Int)] 3 1 1 h2 rfl (by intro u hu; simp at hu; subst hu; rfl) (by unfold maxLen; omega) (by omega) hsz ?_
 intro v' w' g1 g2 g3 _ g5
 obtain ⟨A, c, rfl⟩ := own_form g1
 refine hK A c w' (StT.kid ?_ hq)
 exact h.snoc (q : Int) (by rw [rootsL_len]) g1 g2 g3
theorem t_put0 (k : Int) (tx ty : ByteArray) (num : Int) (hk : okI k) (htx : tx.size ≤ 140737488351232) (hty : ty.size ≤ 140737488351232) (hnum : okI num) (h : StT w0 rp L l ps na ts (s + 1) kv kids w) :
  Calls Try.prog 21 #[.pointer (some ⟨rp, 0, none⟩), .agg #[.int .i64 k, .string tx, .string ty, .int .i64 num, .slice none 0 0]] w fun e w' => ∃ q : Nat, e = .returned (.int .i64 (q : Int)) ∧ rootT (ps.length + sizeL ts) (.node k tx ty num []) = q ∧ StT w0 rp L l ps na (ts ++ [.node k tx ty num []]) s kv kids w' ∧ Pk rp w w' := by
 obtain ⟨new, h⟩ := h
 have hl := congrArg List.length h.is_
 rw [flatL_len, List.length_map] at hl
 have hlen : (ps ++ na ++ new).length = ps.length + sizeL ts := by simp only [List.length_append] at hl ⊢; omega
 refine (put_any w rp (⟨k, tx, ty, num, []⟩, .slice none 0 0) h.prs (OwnI.nil _ _) (fun b hb => by cases hb) ⟨hk, htx, hty, hnum, (fun x (hx : x ∈ ([] : List Int)) => absurd hx (by simp)), Nat.zero_le _⟩).mono ?_
 rintro e w' ⟨rfl, hp, hk'⟩
 refine ⟨_, rfl, hlen.symm, ?_, hk'⟩
 refine ⟨new ++ [(⟨k, tx, ty, num, []⟩, .slice none 0 0)], h.lo, by rw [← List.append_assoc]; exact hp, ?_, fun g hg => ?_, h.pk.trans hk', ?_⟩
 ·rw [← List.append_assoc, List.map_append, h.is_, flatL_app]
  simp [flatL, flat, rootsL]
 ·rw [gBlks_app, List.mem_append] at hg
  rcases hg with hg | hg
  ·exact h.ge g hg
  ·simp [gBlks, Value.ownBlock] at hg
 ·rw [← List.append_assoc]
  exact h.kd.later h.prs hk' (fun g hg => by simp [gBlks, Value.ownBlock] at hg)
def atOf (w : World) (rp : Nat) : Nat := match w.cell? ⟨rp, 1, none⟩ with
 | some (.int _ n) => n.toNat
 | _ => 0
theorem StT.at_ (h : StT w0 rp L l ps na ts s kv kids w) : L.length - atOf w rp = l.length := by
 obtain ⟨nw, hn⟩ := h
 obtain ⟨lv, tv, n, hp⟩ := hn.prs
 have := hp.here
 unfold atOf
 rw [hp.c1]
 simp; omega
end
theorem fin_of {α : Type} {x y : Pr α} {k : Nat} (h : Pr.le x y) (hy : Fin k y) {a : α} {r : List Tk} (hx : x = .ok a r) : r.length < k := by
 rcases h with h | h
 ·rw [h] at hx; cases hx
 ·rw [← h, hx] at hy; exact hy
theorem expr_lt {f n : Nat} {l r : List Tk} {a : T} (h : exprF f n l = .ok a r) : r.length < l.length := fin_of ((le_all f (max f (8 * l.length + 8)) (by omega)).expr n l) ((fin_all _).expr n l (by omega)) h
theorem list_lt {f : Nat} {b : Bs} {x : Bool} {ks ks' : List T} {l r : List Tk} (h : listF f b x ks l = .ok ks' r) : r.length < l.length := fin_of ((le_all f (max f (8 * l.length + 8)) (by omega)).list b x ks l) ((fin_all _).list b x ks l (by omega)) h
theorem ins_lt {f : Nat} {a b : T} {l r : List Tk} (h : insF f a l = .ok b r) : r.length < l.length := fin_of ((le_all f (max f (8 * l.length + 8)) (by omega)).ins a l) ((fin_all _).ins a l (by omega)) h
theorem stm_lt {f : Nat} {a : T} {l r : List Tk} (h : stmF f l = .ok a r) : r.length < l.length := fin_of ((le_all f (max f (8 * l.length + 8)) (by omega)).stm l) ((fin_all _).stm l (by omega)) h
theorem fun_lt {f : Nat} {k : Int} {s : ByteArray} {a : T} {l r : List Tk} (h : funF f k s l = .ok a r) : r.length < l.length := fin_of ((le_all f (max f (8 * l.length + 8)) (by omega)).fun_ k s l) ((fin_all _).fun_ k s l (by omega)) h
theorem typ_lt {f : Nat} {a : Bs} {l r : List Tk} (h : typF f l = .ok a r) : r.length < l.length := fin_of ((typ_le f (max f (8 * l.length + 8)) (by omega)).1 l) ((fin_typ _).1 l (by omega)) h
theorem level_le (b : Bs) : level b ≤ 5 := by
 unfold level
 cases h : levels.findIdx? (fun l => l.contains b) with
 | none => exact Nat.zero_le _
 | some i =>
  have := (List.findIdx?_eq_some_iff_findIdx_eq.1 h).1
  exact this
def opSigns : List Bs := [[124, 124], [38, 38], [61, 61], [33, 61], [60], [60, 61], [62], [62, 61], [43], [45], [124], [94], [42], [47], [37], [60, 60], [62, 62], [38]]
theorem level_none {b : Bs} (h : b ∉ opSigns) : level b = 0 := by
 unfold level
 have e : levels.findIdx? (fun l => l.contains b) = none := by
  rw [List.findIdx?_eq_none_iff]
  intro x hx
  cases hc : x.contains b with
  | false => rfl
  | true =>
   exfalso
   apply h
   have hc := List.contains_iff_mem.1 hc
   have : ∀ x ∈ levels, ∀ y ∈ x, y ∈ opSigns := by decide
   exact this x hx b hc
 rw [e]
theorem str_ne {S : ByteArray} {b : Bs} (h : S.data.toList ≠ b) : (S.toList == b) = false := by
 rw [ByteArray.toList_eq, beq_eq_false_iff_ne]; exact h
theorem level_any (w : World) (S : ByteArray) : Calls Try.prog 56 #[.string S] w fun e w' => e = .returned (.int .i64 ((level S.data.toList : Nat) : Int)) ∧ Kp w w' := by
 have HK := hid (Kp.refl w)
 by_cases h : S.data.toList ∈ opSigns
 ·have hS : S = sB S.data.toList := by unfold sB; cases S; rfl
  generalize S.data.toList = b at h hS
  subst hS
  simp only [opSigns, List.mem_cons, List.not_mem_nil, or_false] at h
  rcases h with rfl | rfl | rfl | rfl | rfl | rfl | rfl | rfl | rfl | rfl | rfl | rfl | rfl | rfl | rfl | rfl | rfl | rfl
  all_goals
   unfold sB
   go_enter Try.func56, Try.ntmps56
   go_wp2
   go_ret
   exact ⟨rfl, HK.out⟩
 ·have HL := hid (level_none h)
  have n : ∀ b ∈ opSigns, S.data.toList ≠ b := fun b hb e => h (e ▸ hb)
  have n0 := str_ne (n [124, 124] (by decide))
  have n1 := str_ne (n [38, 38] (by decide))
  have n2 := str_ne (n [61, 61] (by decide))
  have n3 := str_ne (n [33, 61] (by decide))
  have n4 := str_ne (n [60] (by decide))
  have n5 := str_ne (n [60, 61] (by decide))
  have n6 := str_ne (n [62] (by decide))
  have n7 := str_ne (n [62, 61] (by decide))
  have n8 := str_ne (n [43] (by decide))
  have n9 := str_ne (n [45] (by decide))
  have n10 := str_ne (n [124] (by decide))
  have n11 := str_ne (n [94] (by decide))
  have n12 := str_ne (n [42] (by decide))
  have n13 := str_ne (n [47] (by decide))
  have n14 := str_ne (n [37] (by decide))
  have n15 := str_ne (n [60, 60] (by decide))
  have n16 := str_ne (n [62, 62] (by decide))
  have n17 := str_ne (n [38] (by decide))
  clear h n
  go_enter Try.func56, Try.ntmps56
  go_wp2
  go_ret
  exact ⟨by rw [HL.out]; rfl, HK.out⟩
@[go_sem] theorem un_idx0 (w : World) : Sem.run Try.prog (Instr.index 107 (.agg #[.string ⟨#[45]⟩, .string ⟨#[33]⟩, .string ⟨#[42]⟩]) (.int .i64 0)) w = .ok (.string ⟨#[45]⟩) w := by kernel_rfl
@[go_sem] theorem un_idx1 (w : World) : Sem.run Try.prog (Instr.index 107 (.agg #[.string ⟨#[45]⟩, .string ⟨#[33]⟩, .string ⟨#[42]⟩]) (.int .i64 1)) w = .ok (.string ⟨#[33]⟩) w := by kernel_rfl
@[go_sem] theorem un_idx2 (w : World) : Sem.run Try.prog (Instr.index 107 (.agg #[.string ⟨#[45]⟩, .string ⟨#[33]⟩, .string ⟨#[42]⟩]) (.int .i64 2)) w = .ok (.string ⟨#[42]⟩) w := by kernel_rfl
def C1 (d : Nat) (fn : Nat) (m : List Tk → Pr T) : Prop := ∀ {w0 w : World} {rp : Nat} {L : List TokenM} {l : List Tk} {ps na : List GNode} {ts : List T} {s : Nat} {kv : Value} {kids : List Int}, StT w0 rp L l ps na ts s kv kids w → m l ≠ .out → Calls Try.prog fn #[.pointer (some ⟨rp, 0, none⟩)] w (Res w0 rp L ps na ts (s + d) kv kids (m l))
theorem base1 {d fn : Nat} {m : List Tk → Pr T} (H : ∀ {w : World} {rp : Nat} {L : List TokenM} {l : List Tk} {P Na : List GNode} {s : Nat}, StT w rp L l P Na [] s nilV [] w → m l ≠ .out → Calls Try.prog fn #[.pointer (some ⟨rp, 0, none⟩)] w (Res w rp L P Na [] (s + d) nilV [] (m l))) : C1 d fn m := by
 intro w0 w rp L l ps na ts s kv kids h hne
 exact conv (tin := []) (by rw [List.append_nil]; exact h) fun P Na _ h => H h hne
def CB (d fn : Nat) (m : T → List Tk → Pr T) : Prop := ∀ {w0 w : World} {rp : Nat} {L : List TokenM} {l : List Tk} {ps na : List GNode} {ts : List T} {s : Nat} {kv : Value} {kids : List Int} {a : T} {q : Nat}, StT w0 rp L l ps na (ts ++ [a]) (s + d) kv kids w → rootT (ps.length + sizeL ts) a = q → m a l ≠ .out → Calls Try.prog fn #[.pointer (some ⟨rp, 0, none⟩), .int .i64 (q : Int)] w (Res w0 rp L ps na ts s kv kids (m a l))
theorem baseB {d fn : Nat} {m : T → List Tk → Pr T} (H : ∀ {w : World} {rp : Nat} {L : List TokenM} {l : List Tk} {P Na : List GNode} {s : Nat} {a : T} {q : Nat}, StT w rp L l P Na [a] (s + d) nilV [] w → rootT P.length a = q → m a l ≠ .out → Calls Try.prog fn #[.pointer (some ⟨rp, 0, none⟩), .int .i64 (q : Int)] w (Res w rp L P Na [] s nilV [] (m a l))) : CB d fn m := by
 intro w0 w rp L l ps na ts s kv kids a q h hq hne
 exact conv (tin := [a]) h fun P Na hl h => H h (by rw [hl]; exact hq) hne
def CE (fn : Nat) (m : Nat → List Tk → Pr T) : Prop := ∀ {w0 w : World} {rp : Nat} {L : List TokenM} {l : List Tk} {ps na : List GNode} {ts : List T} {s : Nat} {kv : Value} {kids : List Int} (n : Nat), n ≤ 6 → StT w0 rp L l ps na ts s kv kids w → m n l ≠ .out → Calls Try.prog fn #[.pointer (some ⟨rp, 0, none⟩), .int .i64 (n : Int)] w (Res w0 rp L ps na ts (s + 1) kv kids (m n l))
theorem baseE {fn : Nat} {m : Nat → List Tk → Pr T} (H : ∀ {w : World} {rp : Nat} {L : List TokenM} {l : List Tk} {P Na : List GNode} {s : Nat} (n : Nat), n ≤ 6 → StT w rp L l P Na [] s nilV [] w → m n l ≠ .out → Calls Try.prog fn #[.pointer (some ⟨rp, 0, none⟩), .int .i64 (n : Int)] w (Res w rp L P Na [] (s + 1) nilV [] (m n l))) : CE fn m := by
 intro w0 w rp L l ps na ts s kv kids n hn h hne
 exact conv (tin := []) (by rw [List.append_nil]; exact h) fun P Na _ h => H n hn h hne
def CF (fn : Nat) (m : Int → ByteArray → List Tk → Pr T) : Prop := ∀ {w0 w : World} {rp : Nat} {L : List TokenM} {l : List Tk} {ps na : List GNode} {ts : List T} {s : Nat} {kv : Value} {kids : List Int} (k : Int) (S : ByteArray), okI k → S.size ≤ 140737488351232 → StT w0 rp L l ps na ts s kv kids w → m k S l ≠ .out → Calls Try.prog fn #[.pointer (some ⟨rp, 0, none⟩), .int .i64 k, .string S] w (Res w0 rp L ps na ts s kv kids (m k S l))
theorem baseF {fn : Nat} {m : Int → ByteArray → List Tk → Pr T} (H : ∀ {w : World} {rp : Nat} {L : List TokenM} {l : List Tk} {P Na : List GNode} {s : Nat} (k : Int) (S : ByteArray), okI k → S.size ≤ 140737488351232 → StT w rp L l P Na [] s nilV [] w → m k S l ≠ .out → Calls Try.prog fn #[.pointer (some ⟨rp, 0, none⟩), .int .i64 k, .string S] w (Res w rp L P Na [] s nilV [] (m k S l))) : CF fn m := by
 intro w0 w rp L l ps na ts s kv kids k S hk hS h hne
 exact conv (tin := []) (by rw [List.append_nil]; exact h) fun P Na _ h => H k S hk hS h hne
def CL (fn : Nat) (m : Bs → Bool → List T → List Tk → Pr (List T)) : Prop := ∀ {w0 w : World} {rp : Nat} {L : List TokenM} {l : List Tk} {ps na : List GNode} {ts ks : List T} {s : Nat} {kv : Value} (S : ByteArray) (b : Bs), S.data.toList = b → StT w0 rp L l ps na (ts ++ ks) s kv (rootsL (ps.length + sizeL ts) ks) w → m b true ks l ≠ .out → Calls Try.prog fn #[.pointer (some ⟨rp, 0, none⟩), .string S, kv] w (ResL w0 rp L ps na ts s (m b true ks l))
def ResY (w0 : World) (rp : Nat) (L : List TokenM) (ps na : List GNode) (ts : List T) (s : Nat) (kv : Value) (kids : List Int) (w : World) (r : Pr Bs) (e : Ending) (w' : World) : Prop := match r with
 | .ok t l' => e = .returned (.string (sB t)) ∧ (sB t).size ≤ 1000 ∧ StT w0 rp L l' ps na ts s kv kids w' ∧ w.grownBy w' (some rp)
 | .bad => e = stopP ∧ Below rp w0 w'
 | .out => True
def CY (fn : Nat) (m : List Tk → Pr Bs) : Prop := ∀ {w0 w : World} {rp : Nat} {L : List TokenM} {l : List Tk} {ps na : List GNode} {ts : List T} {s : Nat} {kv : Value} {kids : List Int}, StT w0 rp L l ps na ts s kv kids w → m l ≠ .out → Calls Try.prog fn #[.pointer (some ⟨rp, 0, none⟩)] w (ResY w0 rp L ps na ts s kv kids w (m l))
def ResV (rp : Nat) (L : List TokenM) (ps : List GNode) (s : Nat) (lv tv : Value) (w : World) (r : Pr Bs) (e : Ending) (w' : World) : Prop := match r with
 | .ok t l' => e = .returned (.string (sB t)) ∧ (sB t).size ≤ 1000 ∧ PrsV w' rp L l' ps s lv tv ∧ w.grownBy w' (some rp)
 | .bad => e = stopP ∧ Below rp w w'
 | .out => True
def CV (fn : Nat) (m : List Tk → Pr Bs) : Prop := ∀ {w : World} {rp : Nat} {L : List TokenM} {l : List Tk} {ps : List GNode} {s : Nat} {lv tv : Value}, PrsV w rp L l ps s lv tv → m l ≠ .out → Calls Try.prog fn #[.pointer (some ⟨rp, 0, none⟩)] w (ResV rp L ps s lv tv w (m l))
theorem ResV.ok {w w' : World} {rp : Nat} {L : List TokenM} {l' : List Tk} {ps : List GNode} {s : Nat} {lv tv : Value} {r : Pr Bs} {e : Ending} {t : Bs} (h : ResV rp L ps s lv tv w r e w') (hr : r = .ok t l') : e = .returned (.string (sB t)) ∧ (sB t).size ≤ 1000 ∧ PrsV w' rp L l' ps s lv tv ∧ w.grownBy w' (some rp) := by
 subst hr; exact h
theorem ResV.bad {w w' : World} {rp : Nat} {L : List TokenM} {ps : List GNode} {s : Nat} {lv tv : Value} {r : Pr Bs} {e : Ending} (h : ResV rp L ps s lv tv w r e w') (hr : r = .bad) : e = stopP ∧ Below rp w w' := by
 subst hr; exact h
theorem CV.y {fn : Nat} {m : List Tk → Pr Bs} (h : CV fn m) : CY fn m := by
 intro w0 w rp L l ps na ts s kv kids hs hne
 have hss := hs
 obtain ⟨new, hn⟩ := hs
 obtain ⟨lv, tv, hv⟩ := hn.prs
 refine (h hv hne).mono fun e w' k => ?_
 cases hr : m l with
 | ok t l' =>
  obtain ⟨k1, k2, k3, k4⟩ := ResV.ok k hr
  exact ⟨k1, k2, StN.step hn k3.e (Pk.of_grown k4 hn.prs.le), k4⟩
 | bad =>
  obtain ⟨k1, k2⟩ := ResV.bad k hr
  exact ⟨k1, hss.below k2⟩
 | out => trivial
theorem ResY.ok {w0 w w' : World} {rp : Nat} {L : List TokenM} {l' : List Tk} {ps na : List GNode} {ts : List T} {s : Nat} {kv : Value} {kids : List Int} {r : Pr Bs} {e : Ending} {t : Bs} (h : ResY w0 rp L ps na ts s kv kids w r e w') (hr : r = .ok t l') : e = .returned (.string (sB t)) ∧ (sB t).size ≤ 1000 ∧ StT w0 rp L l' ps na ts s kv kids w' ∧ w.grownBy w' (some rp) := by
 subst hr; exact h
theorem ResY.bad {w0 w w' : World} {rp : Nat} {L : List TokenM} {ps na : List GNode} {ts : List T} {s : Nat} {kv : Value} {kids : List Int} {r : Pr Bs} {e : Ending} (h : ResY w0 rp L ps na ts s kv kids w r e w') (hr : r = .bad) : e = stopP ∧ Below rp w0 w' := by
 subst hr; exact h
def textT : T → ByteArray
 | .node _ s _ _ _ => s
theorem StT.node {w0 w : World} {rp : Nat} {L : List TokenM} {l : List Tk} {ps na : List GNode} {ts : List T} {s q : Nat} {kv : Value} {kids : List Int} {a : T} (h : StT w0 rp L l ps na (ts ++ [a]) s kv kids w) (hq : rootT (ps.length + sizeL ts) a = q) : ∃ g c N ty nm kd, rp < w.heap.size ∧ w.cell? ⟨rp, 2, none⟩ = some (.slice (some ⟨g, 0, none⟩) N c) ∧ q < N ∧ g < w.heap.size ∧ w.cell? ⟨g, q * 5, none⟩ = some (.int .i64 (kindT a)) ∧ w.cell? ⟨g, q * 5 + 1, none⟩ = some (.string (textT a)) ∧ w.cell? ⟨g, q * 5 + 2, none⟩ = some (.string ty) ∧ w.cell? ⟨g, q * 5 + 3, none⟩ = some (.int .i64 nm) ∧ w.cell? ⟨g, q * 5 + 4, none⟩ = some kd ∧ kd.oneCell' = true := by
 obtain ⟨new, h⟩ := h
 obtain ⟨lv, tv, n, hp⟩ := h.prs
 obtain ⟨k, tx, ty, nm, ks⟩ := a
 have hi := h.is_
 rw [flatL_app] at hi
 simp only [flatL, flat, List.append_nil] at hi
 rw [← List.append_assoc] at hi
 obtain ⟨X, Y, e, hx, hy⟩ := List.map_eq_append_iff.1 hi
 obtain ⟨g, rfl, hg⟩ := List.map_eq_singleton_iff.1 hy
 have hlen : (ps ++ X).length = q := by
  have := congrArg List.length hx
  rw [List.length_map, List.length_append, flatL_len, flatL_len] at this
  simp only [rootT] at hq
  rw [List.length_append]; omega
 have hall : ps ++ na ++ new = (ps ++ X) ++ [g] := by rw [List.append_assoc, e, List.append_assoc]
 have ht := hp.tree
 rw [hall] at ht
 obtain ⟨xs, h1, h2⟩ := ht
 have hl2 : ((ps ++ X) ++ [g]).length = q + 1 := by rw [List.length_append, hlen]; rfl
 rw [hl2] at h1
 obtain ⟨gb, c, rfl, _⟩ := rowSome h1 (by omega)
 obtain ⟨cs, hc, hcl, hcc⟩ := h2.get (i := q) (a := g) (by rw [← hlen]; simp)
 obtain ⟨hcs, hown, _⟩ := hc
 rw [hg] at hcs
 have hat := fun j (hj : j < 5) => (rowAt h1 (j := q * 5 + j) (by omega)).1.trans (hcc j hj)
 have hkd : g.2.oneCell' = true := by
  obtain ⟨A', c', e'⟩ := own_form hown
  rw [e']; rfl
 subst hcs
 exact ⟨gb, c, q + 1, ty, nm, g.2, hp.rp_lt, hp.c2, by omega, (rowGe h1).2, hat 0 (by omega), hat 1 (by omega), hat 2 (by omega), hat 3 (by omega), hat 4 (by omega), hkd⟩
theorem StT.look2 {w0 w : World} {rp : Nat} {L : List TokenM} {l : List Tk} {ps na : List GNode} {ts : List T} {s : Nat} {kv : Value} {kids : List Int} (h : StT w0 rp L l ps na ts s kv kids w) : ∃ (A : Option Addr) (c n n1 N : Nat), rp < w.heap.size ∧ w.cell? ⟨rp, 0, none⟩ = some (.slice A N c) ∧ w.cell? ⟨rp, 1, none⟩ = some (.int .i64 (n : Int)) ∧ IntKind.i64.wrap ((n : Int) + 1) = (n1 : Int) ∧ n1 + l.length = N + 1 ∧ ∀ t1 t2 r, l = t1 :: t2 :: r → ∃ (b off : Nat), A = some ⟨b, off, none⟩ ∧ b < w.heap.size ∧ w.cell? ⟨b, off + n1 * 4, none⟩ = some (.int .i64 t2.1) ∧ w.cell? ⟨b, off + n1 * 4 + 1, none⟩ = some (.string t2.2) := by
 obtain ⟨new, h⟩ := h
 obtain ⟨lv, tv, n, hp⟩ := h.prs
 obtain ⟨A, c, rfl⟩ := hp.lform
 have h1 := hp.here
 refine ⟨A, c, n, n + 1, L.length, hp.rp_lt, hp.c0, hp.c1, adv_val n hp.n_le, by omega, ?_⟩
 rintro t1 t2 r rfl
 have hp2 := hp.adv
 obtain ⟨_, b, off, cc, m, e, hb1, hb2, _, _, g0, g1, _⟩ := hp2.tok
 injection e with e _ _
 have hne : b ≠ rp := by omega
 refine ⟨b, off, e, Nat.lt_trans hb1 hp.rp_lt, ?_, ?_⟩
 ·refine (World.cell?_of_block ?_).symm.trans g0
  exact blk_far (p := ⟨rp, 1, none⟩) hne _
 ·refine (World.cell?_of_block ?_).symm.trans g1
  exact blk_far (p := ⟨rp, 1, none⟩) hne _
theorem placeT_eq (a : T) : placeT a = (kindT a == 25 || kindT a == 29 || (kindT a == 26 && (textT a).data.toList == [42])) := by cases a; rfl
theorem place_any (w : World) (a : T) (ty : ByteArray) (nm : Int) (kd : Value) (hkd : kd.oneCell' = true) : Calls Try.prog 57 #[.agg #[.int .i64 (kindT a), .string (textT a), .string ty, .int .i64 nm, kd]] w fun e w' => e = .returned (.bool (placeT a)) ∧ Kp w w' := by
 have HK := hid (show Kp w (w.alloc (.cells #[.int .i64 (kindT a), .string (textT a), .string ty, .int .i64 nm, kd] 37)) from (Kp.refl w).alloc _)
 rw [placeT_eq]
 generalize kindT a = k at HK ⊢
 generalize textT a = tx at HK ⊢
 by_cases h1 : k = 25
 ·subst h1
  go_enter Try.func57, Try.ntmps57
  go_wp2
  go_ret
  exact ⟨rfl, HK.out⟩
 by_cases h2 : k = 29
 ·subst h2
  go_enter Try.func57, Try.ntmps57
  go_wp2
  go_ret
  exact ⟨rfl, HK.out⟩
 have k1 : (k == 25) = false := by rw [beq_eq_false_iff_ne]; exact h1
 have k2 : (k == 29) = false := by rw [beq_eq_false_iff_ne]; exact h2
 by_cases h3 : k = 26
 ·subst h3
  clear h1 h2
  obtain ⟨x, hx⟩ : ∃ x, (tx.toList == [42]) = x := ⟨_, rfl⟩
  have hx2 : (tx.data.toList == [42]) = x := by rw [← ByteArray.toList_eq]; exact hx
  have HX := hid hx2
  clear hx2
  go_enter Try.func57, Try.ntmps57
  go_wp2
  go_ret
  exact ⟨by rw [HX.out]; rfl, HK.out⟩
 have k3 : (k == 26) = false := by rw [beq_eq_false_iff_ne]; exact h3
 have HF := hid (show (k == 25 || k == 29 || (k == 26 && tx.data.toList == [42])) = false by rw [k1, k2, k3]; rfl)
 clear h1 h2 h3
 go_enter Try.func57, Try.ntmps57
 go_wp2
 go_ret
 exact ⟨by rw [HF.out]; rfl, HK.out⟩
structure Ctr (f : Nat) : Prop where
 expr : CE 61 (exprF f)
 unary : C1 1 72 (unaryF f)
 prim : C1 1 77 (primF f)
 list : CL 78 (listF f)
 beh : CB 0 76 (behF f)
 ins : CB 2 79 (insF f)
 fun_ : CF 19 (funF f)
 block : C1 0 38 (blockF f)
 stm : C1 0 50 (stmF f)
 ifs : C1 0 60 (ifsF f)
 sim : C1 0 62 (simF f)
end Go.Proofs.Ytcjgagmcnmmfoaa.Pa

namespace Go.Proofs.Ytcjgagmcnmmfoaa.Pa
open Go.RowKit

theorem named_yes {s : ByteArray} (h : NmOk s) (w : World) : Calls Try.prog 53 #[.string s] w fun e w' => e = .returned (.bool true) ∧ Kp w w' := by
 have HT := hid (toks_ok (name_toks h))
 have i1 : ¬ (16 : Int) < (s.size : Int) := by have := h.1; omega
 clear h
 go_enter Try.func53, Try.ntmps53
 go_upto_region 4 with (go_at_call 7; go_must (refine (HT.out _).mono ?_); rintro e w1 ⟨⟨v, rfl, hl⟩, hk1⟩)
 obtain ⟨xs0, hl0, _⟩ := id hl
 obtain ⟨Al, cl, rfl⟩ := own_form hl0
 obtain ⟨bl, ol, rfl, hbl, c0, c1, _⟩ := at_token (i := 0) hl.rd rfl
 simp only [Nat.zero_mul, Nat.add_zero] at c0 c1
 have hb := blk_new w1 (.cells #[.int .i64 0, .int .i64 0, .int .i64 0] 25)
 have hk2 := (Kp.refl w1).alloc (.cells #[.int .i64 0, .int .i64 0, .int .i64 0] 25)
 have HK := hid (hk1.trans hk2)
 have c0 := cell_kp hk2 hbl c0
 have c1 := cell_kp hk2 hbl c1
 clear hl hl0 hk1 hk2 HT
 generalize w1.alloc _ = W at hb HK c0 c1 ⊢
 have q0 := blk_cell (o := 0) hb rfl
 have q1 := blk_cell (o := 1) hb rfl
 have q2 := blk_cell (o := 2) hb rfl
 clear hb
 go_wp2
 go_ret
 exact ⟨by simp, HK.out⟩
theorem valid_yes {s : ByteArray} (h : VtOk s) (w : World) : Calls Try.prog 54 #[.string s] w fun e w' => e = .returned (.bool true) ∧ Kp w w' := by
 have hs : s.size ≤ 140737488351232 := by
  have h2 : Ty.validB s.data.toList = true := h
  unfold Ty.validB at h2
  rw [Bool.and_eq_true, decide_eq_true_iff] at h2
  have e : s.data.toList.length = s.size := rfl
  omega
 refine (Ty.valid_any w s hs).mono ?_
 rintro e w' ⟨he, hk⟩
 rw [show Ty.validB s.data.toList = true from h] at he
 exact ⟨he, hk⟩
theorem nm_ne {s : ByteArray} (h : NmOk s) : (s.toList == []) = false := by
 refine str_ne fun e => ?_
 have := h.2
 rw [e] at this
 simp [lex] at this
theorem qt_yes {s : ByteArray} (h : QtOk s) (w : World) : Calls Try.prog 55 #[.string s] w fun e w' => e = .returned (.tuple #[.string ⟨(34 :: (escs s.data.toList ++ [34])).toArray⟩, .int .i64 0]) ∧ Kp w w' := by
 refine (quote_short s w h.1).mono ?_
 rintro e w' ⟨⟨_, he⟩ | ⟨h3, _⟩, hk⟩
 ·exact ⟨he, hk⟩
 ·exact absurd h.2 h3
theorem vt_ne {s : ByteArray} (h : VtOk s) : (s.toList == []) = false := by
 refine str_ne fun e => ?_
 have h : Ty.validB s.data.toList = true := h
 rw [e] at h
 exact absurd h (by decide)
theorem right_dflt {k : Int} (h : k ≠ 2 ∧ k ≠ 33 ∧ k ≠ 3 ∧ k ≠ 6 ∧ k ≠ 4 ∧ k ≠ 7 ∧ k ≠ 25 ∧ k ≠ 21 ∧ k ≠ 23 ∧ k ≠ 22 ∧ k ≠ 26 ∧ k ≠ 27 ∧ k ≠ 8) {w : World} {v : Value} {Ak : Option Addr} {nk ck : Nat} : Calls Try.prog 41 #[v, .agg #[.int .i64 k, .string ⟨#[]⟩, .string ⟨#[]⟩, .int .i64 0, .slice Ak nk ck]] w fun e w' => e = .returned (.bool true) ∧ Kp w w' := by
 obtain ⟨h0, h1, h2, h3, h4, h5, h6, h7, h8, h9, h10, h11, h12⟩ := h
 have f0 : (k == 2) = false := beq_eq_false_iff_ne.2 h0
 have f1 : (k == 33) = false := beq_eq_false_iff_ne.2 h1
 have f2 : (k == 3) = false := beq_eq_false_iff_ne.2 h2
 have f3 : (k == 6) = false := beq_eq_false_iff_ne.2 h3
 have f4 : (k == 4) = false := beq_eq_false_iff_ne.2 h4
 have f5 : (k == 7) = false := beq_eq_false_iff_ne.2 h5
 have f6 : (k == 25) = false := beq_eq_false_iff_ne.2 h6
 have f7 : (k == 21) = false := beq_eq_false_iff_ne.2 h7
 have f8 : (k == 23) = false := beq_eq_false_iff_ne.2 h8
 have f9 : (k == 22) = false := beq_eq_false_iff_ne.2 h9
 have f10 : (k == 26) = false := beq_eq_false_iff_ne.2 h10
 have f11 : (k == 27) = false := beq_eq_false_iff_ne.2 h11
 have f12 : (k == 8) = false := beq_eq_false_iff_ne.2 h12
 clear h0 h1 h2 h3 h4 h5 h6 h7 h8 h9 h10 h11 h12
 go_enter Try.func41, Try.ntmps41
 go_upto_region 1 with fail
 have hnp := blk_new w (.cells #[.int .i64 k, .string ⟨#[]⟩, .string ⟨#[]⟩, .int .i64 0, .slice Ak nk ck] 37)
 have HKW := hid ((Kp.refl w).alloc (.cells #[.int .i64 k, .string ⟨#[]⟩, .string ⟨#[]⟩, .int .i64 0, .slice Ak nk ck] 37))
 generalize w.alloc _ = W at *
 generalize w.heap.size = np at hnp ⊢
 have n0 := blk_cell (o := 0) hnp rfl
 have n1 := blk_cell (o := 1) hnp rfl
 have n2 := blk_cell (o := 2) hnp rfl
 have n3 := blk_cell (o := 3) hnp rfl
 have n4 := blk_cell (o := 4) hnp rfl
 have HNP := hid hnp
 clear hnp
 go_wp2_with fail
 go_ret
 exact ⟨by simp, HKW.out⟩
theorem right_func {s : ByteArray} {n : Int} (hs : NmOk s) {w : World} {v : Value} {Ak : Option Addr} {nk ck : Nat} : Calls Try.prog 41 #[v, .agg #[.int .i64 2, .string s, .string ⟨#[]⟩, .int .i64 n, .slice Ak nk ck]] w fun e w' => e = .returned (.bool true) ∧ Kp w w' := by
 have HNM := hid (named_yes hs)
 clear hs
 go_enter Try.func41, Try.ntmps41
 go_upto_region 1 with fail
 have hnp := blk_new w (.cells #[.int .i64 2, .string s, .string ⟨#[]⟩, .int .i64 n, .slice Ak nk ck] 37)
 have HKW := hid ((Kp.refl w).alloc (.cells #[.int .i64 2, .string s, .string ⟨#[]⟩, .int .i64 n, .slice Ak nk ck] 37))
 generalize w.alloc _ = W at *
 generalize w.heap.size = np at hnp ⊢
 have n0 := blk_cell (o := 0) hnp rfl
 have n1 := blk_cell (o := 1) hnp rfl
 have n2 := blk_cell (o := 2) hnp rfl
 have n3 := blk_cell (o := 3) hnp rfl
 have n4 := blk_cell (o := 4) hnp rfl
 have HNP := hid hnp
 clear hnp
 go_wp2_with (go_at_call 53; go_must (refine (HNM.out _).mono ?_); rintro e w1 ⟨rfl, hk1⟩; have HK1 := hid hk1; have hnp1 := (hk1.block _ (blk_lt HNP.out)).trans HNP.out; have m2 := blk_cell (o := 2) hnp1 rfl; have m3 := blk_cell (o := 3) hnp1 rfl; clear hk1 hnp1 n1 n2 n3)
 go_ret
 exact ⟨by simp, (HKW.out.trans HK1.out)⟩
theorem right_lit {n : Int} {w : World} {v : Value} {Ak : Option Addr} {nk ck : Nat} : Calls Try.prog 41 #[v, .agg #[.int .i64 33, .string ⟨#[]⟩, .string ⟨#[]⟩, .int .i64 n, .slice Ak nk ck]] w fun e w' => e = .returned (.bool true) ∧ Kp w w' := by
 go_enter Try.func41, Try.ntmps41
 go_upto_region 1 with fail
 have hnp := blk_new w (.cells #[.int .i64 33, .string ⟨#[]⟩, .string ⟨#[]⟩, .int .i64 n, .slice Ak nk ck] 37)
 have HKW := hid ((Kp.refl w).alloc (.cells #[.int .i64 33, .string ⟨#[]⟩, .string ⟨#[]⟩, .int .i64 n, .slice Ak nk ck] 37))
 generalize w.alloc _ = W at *
 generalize w.heap.size = np at hnp ⊢
 have n0 := blk_cell (o := 0) hnp rfl
 have n1 := blk_cell (o := 1) hnp rfl
 have n2 := blk_cell (o := 2) hnp rfl
 have n3 := blk_cell (o := 3) hnp rfl
 have n4 := blk_cell (o := 4) hnp rfl
 have HNP := hid hnp
 clear hnp
 go_wp2_with fail
 go_ret
 exact ⟨by simp, HKW.out⟩
theorem right_named3 {s t : ByteArray} (hs : NmOk s) (ht : VtOk t) {w : World} {v : Value} {Ak : Option Addr} {nk ck : Nat} : Calls Try.prog 41 #[v, .agg #[.int .i64 3, .string s, .string t, .int .i64 0, .slice Ak nk ck]] w fun e w' => e = .returned (.bool true) ∧ Kp w w' := by
 have HVL := hid (valid_yes ht)
 have HNM := hid (named_yes hs)
 clear hs
 clear ht
 go_enter Try.func41, Try.ntmps41
 go_upto_region 1 with fail
 have hnp := blk_new w (.cells #[.int .i64 3, .string s, .string t, .int .i64 0, .slice Ak nk ck] 37)
 have HKW := hid ((Kp.refl w).alloc (.cells #[.int .i64 3, .string s, .string t, .int .i64 0, .slice Ak nk ck] 37))
 generalize w.alloc _ = W at *
 generalize w.heap.size = np at hnp ⊢
 have n0 := blk_cell (o := 0) hnp rfl
 have n1 := blk_cell (o := 1) hnp rfl
 have n2 := blk_cell (o := 2) hnp rfl
 have n3 := blk_cell (o := 3) hnp rfl
 have n4 := blk_cell (o := 4) hnp rfl
 have HNP := hid hnp
 clear hnp
 go_wp2_with (first | (go_at_call 53; go_must (refine (HNM.out _).mono ?_); rintro e w1 ⟨rfl, hk1⟩; have HK1 := hid hk1; have hnp1 := (hk1.block _ (blk_lt HNP.out)).trans HNP.out; have m2 := blk_cell (o := 2) hnp1 rfl; have m3 := blk_cell (o := 3) hnp1 rfl; clear hk1 hnp1 n1 n2 n3) | (go_at_call 54; go_must (refine (HVL.out _).mono ?_); rintro e w2 ⟨rfl, hk2⟩; have HK2 := hid (HK1.out.trans hk2); have hnp2 := (HK2.out.block _ (blk_lt HNP.out)).trans HNP.out; have l3 := blk_cell (o := 3) hnp2 rfl; clear hk2 hnp2))
 go_ret
 exact ⟨by simp, (HKW.out.trans HK2.out)⟩
theorem right_named6 {s t : ByteArray} (hs : NmOk s) (ht : VtOk t) {w : World} {v : Value} {Ak : Option Addr} {nk ck : Nat} : Calls Try.prog 41 #[v, .agg #[.int .i64 6, .string s, .string t, .int .i64 0, .slice Ak nk ck]] w fun e w' => e = .returned (.bool true) ∧ Kp w w' := by
 have HVL := hid (valid_yes ht)
 have HNM := hid (named_yes hs)
 clear hs
 clear ht
 go_enter Try.func41, Try.ntmps41
 go_upto_region 1 with fail
 have hnp := blk_new w (.cells #[.int .i64 6, .string s, .string t, .int .i64 0, .slice Ak nk ck] 37)
 have HKW := hid ((Kp.refl w).alloc (.cells #[.int .i64 6, .string s, .string t, .int .i64 0, .slice Ak nk ck] 37))
 generalize w.alloc _ = W at *
 generalize w.heap.size = np at hnp ⊢
 have n0 := blk_cell (o := 0) hnp rfl
 have n1 := blk_cell (o := 1) hnp rfl
 have n2 := blk_cell (o := 2) hnp rfl
 have n3 := blk_cell (o := 3) hnp rfl
 have n4 := blk_cell (o := 4) hnp rfl
 have HNP := hid hnp
 clear hnp
 go_wp2_with (first | (go_at_call 53; go_must (refine (HNM.out _).mono ?_); rintro e w1 ⟨rfl, hk1⟩; have HK1 := hid hk1; have hnp1 := (hk1.block _ (blk_lt HNP.out)).trans HNP.out; have m2 := blk_cell (o := 2) hnp1 rfl; have m3 := blk_cell (o := 3) hnp1 rfl; clear hk1 hnp1 n1 n2 n3) | (go_at_call 54; go_must (refine (HVL.out _).mono ?_); rintro e w2 ⟨rfl, hk2⟩; have HK2 := hid (HK1.out.trans hk2); have hnp2 := (HK2.out.block _ (blk_lt HNP.out)).trans HNP.out; have l3 := blk_cell (o := 3) hnp2 rfl; clear hk2 hnp2))
 go_ret
 exact ⟨by simp, (HKW.out.trans HK2.out)⟩
theorem right_res0  {w : World} {v : Value} {Ak : Option Addr} {nk ck : Nat} : Calls Try.prog 41 #[v, .agg #[.int .i64 4, .string ⟨#[]⟩, .string ⟨#[]⟩, .int .i64 0, .slice Ak nk ck]] w fun e w' => e = .returned (.bool true) ∧ Kp w w' := by
 go_enter Try.func41, Try.ntmps41
 go_upto_region 1 with fail
 have hnp := blk_new w (.cells #[.int .i64 4, .string ⟨#[]⟩, .string ⟨#[]⟩, .int .i64 0, .slice Ak nk ck] 37)
 have HKW := hid ((Kp.refl w).alloc (.cells #[.int .i64 4, .string ⟨#[]⟩, .string ⟨#[]⟩, .int .i64 0, .slice Ak nk ck] 37))
 generalize w.alloc _ = W at *
 generalize w.heap.size = np at hnp ⊢
 have n0 := blk_cell (o := 0) hnp rfl
 have n1 := blk_cell (o := 1) hnp rfl
 have n2 := blk_cell (o := 2) hnp rfl
 have n3 := blk_cell (o := 3) hnp rfl
 have n4 := blk_cell (o := 4) hnp rfl
 have HNP := hid hnp
 clear hnp
 go_wp2_with fail
 go_ret
 exact ⟨by simp, HKW.out⟩
theorem right_res1 {t : ByteArray} (ht : VtOk t) {w : World} {v : Value} {Ak : Option Addr} {nk ck : Nat} : Calls Try.prog 41 #[v, .agg #[.int .i64 4, .string ⟨#[]⟩, .string t, .int .i64 0, .slice Ak nk ck]] w fun e w' => e = .returned (.bool true) ∧ Kp w w' := by
 have HVL := hid (valid_yes ht)
 have e1 := vt_ne ht
 clear ht
 go_enter Try.func41, Try.ntmps41
 go_upto_region 1 with fail
 have hnp := blk_new w (.cells #[.int .i64 4, .string ⟨#[]⟩, .string t, .int .i64 0, .slice Ak nk ck] 37)
 have HKW := hid ((Kp.refl w).alloc (.cells #[.int .i64 4, .string ⟨#[]⟩, .string t, .int .i64 0, .slice Ak nk ck] 37))
 generalize w.alloc _ = W at *
 generalize w.heap.size = np at hnp ⊢
 have n0 := blk_cell (o := 0) hnp rfl
 have n1 := blk_cell (o := 1) hnp rfl
 have n2 := blk_cell (o := 2) hnp rfl
 have n3 := blk_cell (o := 3) hnp rfl
 have n4 := blk_cell (o := 4) hnp rfl
 have HNP := hid hnp
 clear hnp
 go_wp2_with (go_at_call 54; go_must (refine (HVL.out _).mono ?_); rintro e w2 ⟨rfl, hk2⟩; have HK2 := hid hk2; have hnp2 := (HK2.out.block _ (blk_lt HNP.out)).trans HNP.out; have l3 := blk_cell (o := 3) hnp2 rfl; clear hk2 hnp2)
 go_ret
 exact ⟨by simp, (HKW.out.trans HK2.out)⟩
theorem right_res2 {s t : ByteArray} (hs : NmOk s) (ht : VtOk t) {w : World} {v : Value} {Ak : Option Addr} {nk ck : Nat} : Calls Try.prog 41 #[v, .agg #[.int .i64 4, .string s, .string t, .int .i64 0, .slice Ak nk ck]] w fun e w' => e = .returned (.bool true) ∧ Kp w w' := by
 have e1 := vt_ne ht
 have e2 := nm_ne hs
 have HVL := hid (valid_yes ht)
 have HNM := hid (named_yes hs)
 clear hs
 clear ht
 go_enter Try.func41, Try.ntmps41
 go_upto_region 1 with fail
 have hnp := blk_new w (.cells #[.int .i64 4, .string s, .string t, .int .i64 0, .slice Ak nk ck] 37)
 have HKW := hid ((Kp.refl w).alloc (.cells #[.int .i64 4, .string s, .string t, .int .i64 0, .slice Ak nk ck] 37))
 generalize w.alloc _ = W at *
 generalize w.heap.size = np at hnp ⊢
 have n0 := blk_cell (o := 0) hnp rfl
 have n1 := blk_cell (o := 1) hnp rfl
 have n2 := blk_cell (o := 2) hnp rfl
 have n3 := blk_cell (o := 3) hnp rfl
 have n4 := blk_cell (o := 4) hnp rfl
 have HNP := hid hnp
 clear hnp
 go_wp2_with (first | (go_at_call 53; go_must (refine (HNM.out _).mono ?_); rintro e w1 ⟨rfl, hk1⟩; have HK1 := hid hk1; have hnp1 := (hk1.block _ (blk_lt HNP.out)).trans HNP.out; have m2 := blk_cell (o := 2) hnp1 rfl; have m3 := blk_cell (o := 3) hnp1 rfl; clear hk1 hnp1 n1 n2 n3) | (go_at_call 54; go_must (refine (HVL.out _).mono ?_); rintro e w2 ⟨rfl, hk2⟩; have HK2 := hid (HK1.out.trans hk2); have hnp2 := (HK2.out.block _ (blk_lt HNP.out)).trans HNP.out; have l3 := blk_cell (o := 3) hnp2 rfl; clear hk2 hnp2))
 go_ret
 exact ⟨by simp, (HKW.out.trans HK2.out)⟩
theorem right_nm7 {s : ByteArray} (hs : NmOk s) {w : World} {v : Value} {Ak : Option Addr} {nk ck : Nat} : Calls Try.prog 41 #[v, .agg #[.int .i64 7, .string s, .string ⟨#[]⟩, .int .i64 0, .slice Ak nk ck]] w fun e w' => e = .returned (.bool true) ∧ Kp w w' := by
 have HNM := hid (named_yes hs)
 clear hs
 go_enter Try.func41, Try.ntmps41
 go_upto_region 1 with fail
 have hnp := blk_new w (.cells #[.int .i64 7, .string s, .string ⟨#[]⟩, .int .i64 0, .slice Ak nk ck] 37)
 have HKW := hid ((Kp.refl w).alloc (.cells #[.int .i64 7, .string s, .string ⟨#[]⟩, .int .i64 0, .slice Ak nk ck] 37))
 generalize w.alloc _ = W at *
 generalize w.heap.size = np at hnp ⊢
 have n0 := blk_cell (o := 0) hnp rfl
 have n1 := blk_cell (o := 1) hnp rfl
 have n2 := blk_cell (o := 2) hnp rfl
 have n3 := blk_cell (o := 3) hnp rfl
 have n4 := blk_cell (o := 4) hnp rfl
 have HNP := hid hnp
 clear hnp
 go_wp2_with (go_at_call 53; go_must (refine (HNM.out _).mono ?_); rintro e w1 ⟨rfl, hk1⟩; have HK1 := hid hk1; have hnp1 := (hk1.block _ (blk_lt HNP.out)).trans HNP.out; have m2 := blk_cell (o := 2) hnp1 rfl; have m3 := blk_cell (o := 3) hnp1 rfl; clear hk1 hnp1 n1 n2 n3)
 go_ret
 exact ⟨by simp, (HKW.out.trans HK1.out)⟩
theorem right_nm25 {s : ByteArray} (hs : NmOk s) {w : World} {v : Value} {Ak : Option Addr} {nk ck : Nat} : Calls Try.prog 41 #[v, .agg #[.int .i64 25, .string s, .string ⟨#[]⟩, .int .i64 0, .slice Ak nk ck]] w fun e w' => e = .returned (.bool true) ∧ Kp w w' := by
 have HNM := hid (named_yes hs)
 clear hs
 go_enter Try.func41, Try.ntmps41
 go_upto_region 1 with fail
 have hnp := blk_new w (.cells #[.int .i64 25, .string s, .string ⟨#[]⟩, .int .i64 0, .slice Ak nk ck] 37)
 have HKW := hid ((Kp.refl w).alloc (.cells #[.int .i64 25, .string s, .string ⟨#[]⟩, .int .i64 0, .slice Ak nk ck] 37))
 generalize w.alloc _ = W at *
 generalize w.heap.size = np at hnp ⊢
 have n0 := blk_cell (o := 0) hnp rfl
 have n1 := blk_cell (o := 1) hnp rfl
 have n2 := blk_cell (o := 2) hnp rfl
 have n3 := blk_cell (o := 3) hnp rfl
 have n4 := blk_cell (o := 4) hnp rfl
 have HNP := hid hnp
 clear hnp
 go_wp2_with (go_at_call 53; go_must (refine (HNM.out _).mono ?_); rintro e w1 ⟨rfl, hk1⟩; have HK1 := hid hk1; have hnp1 := (hk1.block _ (blk_lt HNP.out)).trans HNP.out; have m2 := blk_cell (o := 2) hnp1 rfl; have m3 := blk_cell (o := 3) hnp1 rfl; clear hk1 hnp1 n1 n2 n3)
 go_ret
 exact ⟨by simp, (HKW.out.trans HK1.out)⟩
theorem right_int {n : Int} (hn : 0 ≤ n) {w : World} {v : Value} {Ak : Option Addr} {nk ck : Nat} : Calls Try.prog 41 #[v, .agg #[.int .i64 21, .string ⟨#[]⟩, .string ⟨#[]⟩, .int .i64 n, .slice Ak nk ck]] w fun e w' => e = .returned (.bool true) ∧ Kp w w' := by
 go_enter Try.func41, Try.ntmps41
 go_upto_region 1 with fail
 have hnp := blk_new w (.cells #[.int .i64 21, .string ⟨#[]⟩, .string ⟨#[]⟩, .int .i64 n, .slice Ak nk ck] 37)
 have HKW := hid ((Kp.refl w).alloc (.cells #[.int .i64 21, .string ⟨#[]⟩, .string ⟨#[]⟩, .int .i64 n, .slice Ak nk ck] 37))
 generalize w.alloc _ = W at *
 generalize w.heap.size = np at hnp ⊢
 have n0 := blk_cell (o := 0) hnp rfl
 have n1 := blk_cell (o := 1) hnp rfl
 have n2 := blk_cell (o := 2) hnp rfl
 have n3 := blk_cell (o := 3) hnp rfl
 have n4 := blk_cell (o := 4) hnp rfl
 have HNP := hid hnp
 clear hnp
 go_wp2_with fail
 go_ret
 exact ⟨by simp, HKW.out⟩
theorem right_bool {n : Int} {w : World} {v : Value} {Ak : Option Addr} {nk ck : Nat} : Calls Try.prog 41 #[v, .agg #[.int .i64 23, .string ⟨#[]⟩, .string ⟨#[]⟩, .int .i64 n, .slice Ak nk ck]] w fun e w' => e = .returned (.bool true) ∧ Kp w w' := by
 go_enter Try.func41, Try.ntmps41
 go_upto_region 1 with fail
 have hnp := blk_new w (.cells #[.int .i64 23, .string ⟨#[]⟩, .string ⟨#[]⟩, .int .i64 n, .slice Ak nk ck] 37)
 have HKW := hid ((Kp.refl w).alloc (.cells #[.int .i64 23, .string ⟨#[]⟩, .string ⟨#[]⟩, .int .i64 n, .slice Ak nk ck] 37))
 generalize w.alloc _ = W at *
 generalize w.heap.size = np at hnp ⊢
 have n0 := blk_cell (o := 0) hnp rfl
 have n1 := blk_cell (o := 1) hnp rfl
 have n2 := blk_cell (o := 2) hnp rfl
 have n3 := blk_cell (o := 3) hnp rfl
 have n4 := blk_cell (o := 4) hnp rfl
 have HNP := hid hnp
 clear hnp
 go_wp2_with fail
 go_ret
 exact ⟨by simp, HKW.out⟩
theorem right_text {s : ByteArray} (hs : QtOk s) {w : World} {v : Value} {Ak : Option Addr} {nk ck : Nat} : Calls Try.prog 41 #[v, .agg #[.int .i64 22, .string s, .string ⟨#[]⟩, .int .i64 0, .slice Ak nk ck]] w fun e w' => e = .returned (.bool true) ∧ Kp w w' := by
 have HQ := hid (qt_yes hs)
 clear hs
 go_enter Try.func41, Try.ntmps41
 go_upto_region 1 with fail
 have hnp := blk_new w (.cells #[.int .i64 22, .string s, .string ⟨#[]⟩, .int .i64 0, .slice Ak nk ck] 37)
 have HKW := hid ((Kp.refl w).alloc (.cells #[.int .i64 22, .string s, .string ⟨#[]⟩, .int .i64 0, .slice Ak nk ck] 37))
 generalize w.alloc _ = W at *
 generalize w.heap.size = np at hnp ⊢
 have n0 := blk_cell (o := 0) hnp rfl
 have n1 := blk_cell (o := 1) hnp rfl
 have n2 := blk_cell (o := 2) hnp rfl
 have n3 := blk_cell (o := 3) hnp rfl
 have n4 := blk_cell (o := 4) hnp rfl
 have HNP := hid hnp
 clear hnp
 go_wp2_with (go_at_call 55; go_must (refine (HQ.out _).mono ?_); rintro e w1 ⟨rfl, hk1⟩; have HK1 := hid hk1; have hnp1 := (hk1.block _ (blk_lt HNP.out)).trans HNP.out; have m2 := blk_cell (o := 2) hnp1 rfl; have m3 := blk_cell (o := 3) hnp1 rfl; clear hk1 hnp1 n1 n2 n3)
 go_ret
 exact ⟨by simp, (HKW.out.trans HK1.out)⟩
theorem right_bin {s : ByteArray} (hs : 0 < level s.data.toList) {w : World} {v : Value} {Ak : Option Addr} {nk ck : Nat} : Calls Try.prog 41 #[v, .agg #[.int .i64 27, .string s, .string ⟨#[]⟩, .int .i64 0, .slice Ak nk ck]] w fun e w' => e = .returned (.bool true) ∧ Kp w w' := by
 have HLV := hid fun w => level_any w s
 have i1 : (0 : Int) < ((level s.data.toList : Nat) : Int) := by omega
 clear hs
 go_enter Try.func41, Try.ntmps41
 go_upto_region 1 with fail
 have hnp := blk_new w (.cells #[.int .i64 27, .string s, .string ⟨#[]⟩, .int .i64 0, .slice Ak nk ck] 37)
 have HKW := hid ((Kp.refl w).alloc (.cells #[.int .i64 27, .string s, .string ⟨#[]⟩, .int .i64 0, .slice Ak nk ck] 37))
 generalize w.alloc _ = W at *
 generalize w.heap.size = np at hnp ⊢
 have n0 := blk_cell (o := 0) hnp rfl
 have n1 := blk_cell (o := 1) hnp rfl
 have n2 := blk_cell (o := 2) hnp rfl
 have n3 := blk_cell (o := 3) hnp rfl
 have n4 := blk_cell (o := 4) hnp rfl
 have HNP := hid hnp
 clear hnp
 go_wp2_with (go_at_call 56; go_must (refine (HLV.out _).mono ?_); rintro e w1 ⟨rfl, hk1⟩; have HK1 := hid hk1; have hnp1 := (hk1.block _ (blk_lt HNP.out)).trans HNP.out; have m2 := blk_cell (o := 2) hnp1 rfl; have m3 := blk_cell (o := 3) hnp1 rfl; clear hk1 hnp1 n1 n2 n3)
 go_ret
 exact ⟨by simp, (HKW.out.trans HK1.out)⟩
end Go.Proofs.Ytcjgagmcnmmfoaa.Pa

namespace Go.Proofs.Ytcjgagmcnmmfoaa.Pa
open Go.RowKit

theorem right_una_min  {w : World} {bt off cc LL r kb ko nk ck : Nat} {K : Int} (hr : r < LL) (hk0 : 0 < nk) (hbt : bt < w.heap.size) (hkb : kb < w.heap.size) (c1 : w.cell? ⟨kb, ko, none⟩ = some (.int .i64 (r : Int))) (c2 : w.cell? ⟨bt, off + r * 5, none⟩ = some (.int .i64 K)) : Calls Try.prog 41 #[.slice (some ⟨bt, off, none⟩) LL cc, .agg #[.int .i64 26, .string ⟨#[45]⟩, .string ⟨#[]⟩, .int .i64 0, .slice (some ⟨kb, ko, none⟩) nk ck]] w fun e w' => e = .returned (.bool true) ∧ Kp w w' := by
 have i0 : (0 : Int) < (nk : Int) := by omega
 have i1 : (r : Int) < (LL : Int) := by omega
 clear hr hk0
 go_enter Try.func41, Try.ntmps41
 go_upto_region 1 with fail
 have hnp := blk_new w (.cells #[.int .i64 26, .string ⟨#[45]⟩, .string ⟨#[]⟩, .int .i64 0, .slice (some ⟨kb, ko, none⟩) nk ck] 37)
 have HKW := hid ((Kp.refl w).alloc (.cells #[.int .i64 26, .string ⟨#[45]⟩, .string ⟨#[]⟩, .int .i64 0, .slice (some ⟨kb, ko, none⟩) nk ck] 37))
 have c1 := cell_kp HKW.out hkb c1
 have c2 := cell_kp HKW.out hbt c2
 generalize w.alloc _ = W at *
 generalize w.heap.size = np at hnp ⊢
 have n0 := blk_cell (o := 0) hnp rfl
 have n1 := blk_cell (o := 1) hnp rfl
 have n2 := blk_cell (o := 2) hnp rfl
 have n3 := blk_cell (o := 3) hnp rfl
 have n4 := blk_cell (o := 4) hnp rfl
 have HNP := hid hnp
 clear hnp
 go_wp2_with fail
 go_ret
 exact ⟨by simp, HKW.out⟩
theorem right_una_not  {w : World} {bt off cc LL r kb ko nk ck : Nat} {K : Int} (hr : r < LL) (hk0 : 0 < nk) (hbt : bt < w.heap.size) (hkb : kb < w.heap.size) (c1 : w.cell? ⟨kb, ko, none⟩ = some (.int .i64 (r : Int))) (c2 : w.cell? ⟨bt, off + r * 5, none⟩ = some (.int .i64 K)) : Calls Try.prog 41 #[.slice (some ⟨bt, off, none⟩) LL cc, .agg #[.int .i64 26, .string ⟨#[33]⟩, .string ⟨#[]⟩, .int .i64 0, .slice (some ⟨kb, ko, none⟩) nk ck]] w fun e w' => e = .returned (.bool true) ∧ Kp w w' := by
 have i0 : (0 : Int) < (nk : Int) := by omega
 have i1 : (r : Int) < (LL : Int) := by omega
 clear hr hk0
 go_enter Try.func41, Try.ntmps41
 go_upto_region 1 with fail
 have hnp := blk_new w (.cells #[.int .i64 26, .string ⟨#[33]⟩, .string ⟨#[]⟩, .int .i64 0, .slice (some ⟨kb, ko, none⟩) nk ck] 37)
 have HKW := hid ((Kp.refl w).alloc (.cells #[.int .i64 26, .string ⟨#[33]⟩, .string ⟨#[]⟩, .int .i64 0, .slice (some ⟨kb, ko, none⟩) nk ck] 37))
 have c1 := cell_kp HKW.out hkb c1
 have c2 := cell_kp HKW.out hbt c2
 generalize w.alloc _ = W at *
 generalize w.heap.size = np at hnp ⊢
 have n0 := blk_cell (o := 0) hnp rfl
 have n1 := blk_cell (o := 1) hnp rfl
 have n2 := blk_cell (o := 2) hnp rfl
 have n3 := blk_cell (o := 3) hnp rfl
 have n4 := blk_cell (o := 4) hnp rfl
 have HNP := hid hnp
 clear hnp
 go_wp2_with fail
 go_ret
 exact ⟨by simp, HKW.out⟩
theorem right_una_star  {w : World} {bt off cc LL r kb ko nk ck : Nat} {K : Int} (hr : r < LL) (hk0 : 0 < nk) (hbt : bt < w.heap.size) (hkb : kb < w.heap.size) (c1 : w.cell? ⟨kb, ko, none⟩ = some (.int .i64 (r : Int))) (c2 : w.cell? ⟨bt, off + r * 5, none⟩ = some (.int .i64 K)) : Calls Try.prog 41 #[.slice (some ⟨bt, off, none⟩) LL cc, .agg #[.int .i64 26, .string ⟨#[42]⟩, .string ⟨#[]⟩, .int .i64 0, .slice (some ⟨kb, ko, none⟩) nk ck]] w fun e w' => e = .returned (.bool true) ∧ Kp w w' := by
 have i0 : (0 : Int) < (nk : Int) := by omega
 have i1 : (r : Int) < (LL : Int) := by omega
 clear hr hk0
 go_enter Try.func41, Try.ntmps41
 go_upto_region 1 with fail
 have hnp := blk_new w (.cells #[.int .i64 26, .string ⟨#[42]⟩, .string ⟨#[]⟩, .int .i64 0, .slice (some ⟨kb, ko, none⟩) nk ck] 37)
 have HKW := hid ((Kp.refl w).alloc (.cells #[.int .i64 26, .string ⟨#[42]⟩, .string ⟨#[]⟩, .int .i64 0, .slice (some ⟨kb, ko, none⟩) nk ck] 37))
 have c1 := cell_kp HKW.out hkb c1
 have c2 := cell_kp HKW.out hbt c2
 generalize w.alloc _ = W at *
 generalize w.heap.size = np at hnp ⊢
 have n0 := blk_cell (o := 0) hnp rfl
 have n1 := blk_cell (o := 1) hnp rfl
 have n2 := blk_cell (o := 2) hnp rfl
 have n3 := blk_cell (o := 3) hnp rfl
 have n4 := blk_cell (o := 4) hnp rfl
 have HNP := hid hnp
 clear hnp
 go_wp2_with fail
 go_ret
 exact ⟨by simp, HKW.out⟩
theorem right_una_amp  {w : World} {bt off cc LL r kb ko nk ck : Nat} {K : Int} (hr : r < LL) (hk0 : 0 < nk) (hbt : bt < w.heap.size) (hkb : kb < w.heap.size) (c1 : w.cell? ⟨kb, ko, none⟩ = some (.int .i64 (r : Int))) (c2 : w.cell? ⟨bt, off + r * 5, none⟩ = some (.int .i64 K)) (hK : K = 25) : Calls Try.prog 41 #[.slice (some ⟨bt, off, none⟩) LL cc, .agg #[.int .i64 26, .string ⟨#[38]⟩, .string ⟨#[]⟩, .int .i64 0, .slice (some ⟨kb, ko, none⟩) nk ck]] w fun e w' => e = .returned (.bool true) ∧ Kp w w' := by
 have i0 : (0 : Int) < (nk : Int) := by omega
 have i1 : (r : Int) < (LL : Int) := by omega
 clear hr hk0
 subst hK
 go_enter Try.func41, Try.ntmps41
 go_upto_region 1 with fail
 have hnp := blk_new w (.cells #[.int .i64 26, .string ⟨#[38]⟩, .string ⟨#[]⟩, .int .i64 0, .slice (some ⟨kb, ko, none⟩) nk ck] 37)
 have HKW := hid ((Kp.refl w).alloc (.cells #[.int .i64 26, .string ⟨#[38]⟩, .string ⟨#[]⟩, .int .i64 0, .slice (some ⟨kb, ko, none⟩) nk ck] 37))
 have c1 := cell_kp HKW.out hkb c1
 have c2 := cell_kp HKW.out hbt c2
 generalize w.alloc _ = W at *
 generalize w.heap.size = np at hnp ⊢
 have n0 := blk_cell (o := 0) hnp rfl
 have n1 := blk_cell (o := 1) hnp rfl
 have n2 := blk_cell (o := 2) hnp rfl
 have n3 := blk_cell (o := 3) hnp rfl
 have n4 := blk_cell (o := 4) hnp rfl
 have HNP := hid hnp
 clear hnp
 go_wp2_with fail
 go_ret
 exact ⟨by simp, HKW.out⟩
theorem right_assign  {w : World} {bt off cc LL r kb ko nk ck : Nat} {a : T} {ty2 : ByteArray} {nm2 : Int} {A2 : Option Addr} {n2 e2 : Nat} (hr : r < LL) (hk0 : 0 < nk) (hbt : bt < w.heap.size) (hkb : kb < w.heap.size) (c1 : w.cell? ⟨kb, ko, none⟩ = some (.int .i64 (r : Int))) (c2 : w.cell? ⟨bt, off + r * 5, none⟩ = some (.int .i64 (kindT a))) (c3 : w.cell? ⟨bt, off + r * 5 + 1, none⟩ = some (.string (textT a))) (c4 : w.cell? ⟨bt, off + r * 5 + 2, none⟩ = some (.string ty2)) (c5 : w.cell? ⟨bt, off + r * 5 + 3, none⟩ = some (.int .i64 nm2)) (c6 : w.cell? ⟨bt, off + r * 5 + 4, none⟩ = some (.slice A2 n2 e2)) (hpl : placeT a = true) : Calls Try.prog 41 #[.slice (some ⟨bt, off, none⟩) LL cc, .agg #[.int .i64 8, .string ⟨#[]⟩, .string ⟨#[]⟩, .int .i64 0, .slice (some ⟨kb, ko, none⟩) nk ck]] w fun e w' => e = .returned (.bool true) ∧ Kp w w' := by
 have i0 : (0 : Int) < (nk : Int) := by omega
 have i1 : (r : Int) < (LL : Int) := by omega
 clear hr hk0
 have HPL := hid fun w => place_any w a ty2 nm2 (.slice A2 n2 e2) rfl
 rw [hpl] at HPL
 clear hpl
 generalize kindT a = K at HPL c2 ⊢
 generalize textT a = S at HPL c3 ⊢
 go_enter Try.func41, Try.ntmps41
 go_upto_region 1 with fail
 have hnp := blk_new w (.cells #[.int .i64 8, .string ⟨#[]⟩, .string ⟨#[]⟩, .int .i64 0, .slice (some ⟨kb, ko, none⟩) nk ck] 37)
 have HKW := hid ((Kp.refl w).alloc (.cells #[.int .i64 8, .string ⟨#[]⟩, .string ⟨#[]⟩, .int .i64 0, .slice (some ⟨kb, ko, none⟩) nk ck] 37))
 have c1 := cell_kp HKW.out hkb c1
 have c2 := cell_kp HKW.out hbt c2
 have c3 := cell_kp HKW.out hbt c3
 have c4 := cell_kp HKW.out hbt c4
 have c5 := cell_kp HKW.out hbt c5
 have c6 := cell_kp HKW.out hbt c6
 generalize w.alloc _ = W at *
 generalize w.heap.size = np at hnp ⊢
 have n0 := blk_cell (o := 0) hnp rfl
 have n1 := blk_cell (o := 1) hnp rfl
 have n2 := blk_cell (o := 2) hnp rfl
 have n3 := blk_cell (o := 3) hnp rfl
 have n4 := blk_cell (o := 4) hnp rfl
 have HNP := hid hnp
 clear hnp
 go_wp2_with (go_at_call 57; go_must (refine (HPL.out _).mono ?_); rintro e w1 ⟨rfl, hk1⟩; have HK1 := hid hk1; have hnp1 := (hk1.block _ (blk_lt HNP.out)).trans HNP.out; have m1 := blk_cell (o := 1) hnp1 rfl; have m2 := blk_cell (o := 2) hnp1 rfl; have m3 := blk_cell (o := 3) hnp1 rfl; clear hk1 hnp1 n1 n2 n3)
 go_ret
 exact ⟨by simp, (HKW.out.trans HK1.out)⟩
theorem flat_root2 (b : Nat) (t : T) : ∃ m, (flat b t)[sizeT t - 1]? = some m ∧ m.kind = kindT t ∧ m.text = textT t := by
 cases t with
 | node k s y n ks =>
  refine ⟨⟨k, s, y, n, rootsL b ks⟩, ?_, rfl, rfl⟩
  rw [flat, List.getElem?_append_right (by rw [flatL_len]; simp [sizeT]), flatL_len]
  simp [sizeT]
theorem root_at2 {L : List NodeM} {b : Nat} {t : T} (h : Sub L b (flat b t)) : ∃ m, L[rootT b t]? = some m ∧ m.kind = kindT t ∧ m.text = textT t := by
 obtain ⟨m, h1, h2⟩ := flat_root2 b t
 have h3 := h _ m h1
 have h4 := rootT_eq b t
 have h5 := sizeT_pos t
 exact ⟨m, by rw [show rootT b t = b + (sizeT t - 1) by omega]; exact h3, h2⟩
theorem first_kid {L : List NodeM} {w : World} {v : Value} {b nk ck : Nat} {Ak : Option Addr} {a : T} {ks : List T} (hT : RdL CeNode 5 w v L) (hs : Sub L b (flatL b (a :: ks))) (hk : RdInts w (.slice Ak nk ck) (rootsL b (a :: ks))) :
  ∃ bt off cc r kb ko ty2 nm2 A2 n2 e2, v = .slice (some ⟨bt, off, none⟩) L.length cc ∧ Ak = some ⟨kb, ko, none⟩ ∧ r < L.length ∧ 0 < nk ∧ bt < w.heap.size ∧ kb < w.heap.size ∧ w.cell? ⟨kb, ko, none⟩ = some (.int .i64 (r : Int)) ∧ w.cell? ⟨bt, off + r * 5, none⟩ = some (.int .i64 (kindT a)) ∧
   w.cell? ⟨bt, off + r * 5 + 1, none⟩ = some (.string (textT a)) ∧ w.cell? ⟨bt, off + r * 5 + 2, none⟩ = some (.string ty2) ∧ w.cell? ⟨bt, off + r * 5 + 3, none⟩ = some (.int .i64 nm2) ∧ w.cell? ⟨bt, off + r * 5 + 4, none⟩ = some (.slice A2 n2 e2) := by
 have hsub : Sub L b (flat b a) := by rw [flatL] at hs; exact hs.left
 obtain ⟨m, hm, h1, h2⟩ := root_at2 hsub
 obtain ⟨A, c, rfl, _⟩ := hT.form
 obtain ⟨bt, off, rfl, hbt, lk, g0, g1, g2, g3, g4, _, _, _, _, rk, _⟩ := at_node hT hm
 obtain ⟨A2, e2, rfl⟩ := rk.form
 obtain ⟨kb, ko, rfl, hkb, c1⟩ := ints_at (i := 0) hk rfl
 rw [h1] at g0
 rw [h2] at g1
 obtain ⟨_, e1⟩ := hk.form
 obtain ⟨_, e1⟩ := e1
 injection e1 with _ e1 _
 refine ⟨bt, off, c, rootT b a, kb, ko, _, _, A2, _, e2, rfl, rfl, (List.getElem?_eq_some_iff.1 hm).1, by rw [e1, rootsL_len]; simp, hbt, hkb, c1, g0, g1, g2, g3, g4⟩
theorem bytes_of {s : ByteArray} {l : Bs} (h : s.data.toList = l) : s = ⟨l.toArray⟩ := by
 cases s with | mk d => subst h; simp
theorem right_any {L : List NodeM} {w : World} {v lk : Value} {b : Nat} {k n : Int} {s ty : ByteArray} {ks : List T} (hT : RdL CeNode 5 w v L) (hs : Sub L b (flatL b ks)) (hrk : RdInts w lk (rootsL b ks)) (h : GT (.node k s ty n ks)) :
  Calls Try.prog 41 #[v, .agg #[.int .i64 k, .string s, .string ty, .int .i64 n, lk]] w fun e w' => e = .returned (.bool true) ∧ Kp w w' := by
 obtain ⟨Ak, ck, rfl⟩ := hrk.form
 cases h with
 | file _ _ _ => exact right_dflt (k := 1) (by decide)
 | func _ _ ps q b hk _ _ _ _ _ _ _ =>
  rcases hk with ⟨rfl, hk⟩ | ⟨rfl, rfl⟩
  ·exact right_func hk
  ·exact right_lit
 | named _ _ _ hk h1 h2 =>
  rcases hk with rfl | rfl
  ·exact right_named3 h1 h2
  ·exact right_named6 h1 h2
 | res0 => exact right_res0
 | res _ _ h1 h2 =>
  rcases h1 with rfl | h1
  ·exact right_res1 h2
  ·exact right_res2 h1 h2
 | block _ _ _ => exact right_dflt (k := 5) (by decide)
 | define _ a h1 _ _ => exact right_nm7 h1
 | assign a b2 _ _ hp _ _ =>
  obtain ⟨bt, off, cc, r, kb, ko, ty2, nm2, A2, n2, e2, rfl, rfl, h1, h2, h3, h4, h5, h6, h7, h8, h9, h10⟩ := first_kid hT hs hrk
  exact right_assign h1 h2 h3 h4 h5 h6 h7 h8 h9 h10 hp
 | calls _ a hk _ _ => rcases hk with rfl | rfl <;> exact right_dflt (by decide)
 | if2 _ _ _ _ _ _ => exact right_dflt (k := 10) (by decide)
 | if3 _ _ _ _ _ _ _ _ _ => exact right_dflt (k := 10) (by decide)
 | for1 _ _ _ => exact right_dflt (k := 11) (by decide)
 | for2 _ _ _ _ _ _ => exact right_dflt (k := 11) (by decide)
 | bare _ hk => rcases hk with rfl | rfl | rfl | rfl | rfl <;> exact right_dflt (by decide)
 | ret _ _ _ => exact right_dflt (k := 14) (by decide)
 | int _ h1 => exact right_int h1
 | text _ h1 => exact right_text h1
 | bool _ _ => exact right_bool
 | name _ h1 => exact right_nm25 h1
 | una _ a h1 _ _ =>
  obtain ⟨bt, off, cc, r, kb, ko, ty2, nm2, A2, n2, e2, rfl, rfl, g1, g2, g3, g4, g5, g6, _, _, _, _⟩ := first_kid hT hs hrk
  rcases h1 with h1 | h1 | h1 | ⟨h1, h2⟩
  ·rw [bytes_of h1]; exact right_una_min g1 g2 g3 g4 g5 g6
  ·rw [bytes_of h1]; exact right_una_not g1 g2 g3 g4 g5 g6
  ·rw [bytes_of h1]; exact right_una_star g1 g2 g3 g4 g5 g6
  ·rw [bytes_of h1]; exact right_una_amp g1 g2 g3 g4 g5 g6 h2
 | bin _ _ _ h1 _ _ _ _ => exact right_bin h1
 | call _ _ _ _ _ _ => exact right_dflt (k := 28) (by decide)
 | idx _ _ _ _ _ _ => exact right_dflt (k := 29) (by decide)
 | cut _ _ _ _ _ _ _ _ _ => exact right_dflt (k := 30) (by decide)
 | list _ _ _ => exact right_dflt (k := 32) (by decide)
theorem flatL_at : ∀ {ks : List T} {b i : Nat} {m : NodeM}, (flatL b ks)[i]? = some m → ∃ (j : Nat) (t : T), ks[j]? = some t ∧ ∃ i' : Nat, (flat (b + sizeL (ks.take j)) t)[i']? = some m
 | [], b, i, m, h => by simp [flatL] at h
 | t :: r, b, i, m, h => by
  rw [flatL, List.getElem?_append] at h
  split at h
  ·exact ⟨0, t, rfl, i, by simpa [sizeL] using h⟩
  ·obtain ⟨j, u, h1, i', h2⟩ := flatL_at h
   refine ⟨j + 1, u, by simpa using h1, i', ?_⟩
   rw [List.take_succ_cons, sizeL, ← Nat.add_assoc]
   exact h2
theorem node_at {L : List NodeM} : ∀ (N : Nat) (t : T), sizeT t ≤ N → N ≤ 4000 → GT t → ∀ b, Sub L b (flat b t) → ∀ (i : Nat) (m : NodeM), (flat b t)[i]? = some m → ∃ b' k s ty n ks, m = ⟨k, s, ty, n, rootsL b' ks⟩ ∧ GT (.node k s ty n ks) ∧ Sub L b' (flatL b' ks)
 | 0, t, h, _, _, _, _, _, _, _ => absurd h (by have := sizeT_pos t; omega)
 | N + 1, .node k s ty n ks, h, hN, hg, b, hs, i, m, hm => by
  have hsl : sizeL ks ≤ N := by simp only [sizeT] at h; omega
  have hs1 : Sub L b (flatL b ks) := by rw [flat] at hs; exact hs.left
  rw [flat, List.getElem?_append] at hm
  split at hm
  ·obtain ⟨j, t, ht, i', hi⟩ := flatL_at hm
   have hok := gt_fits hg (by have := sizeL_ge ks; omega)
   exact node_at N t (by have := size_le ht; omega) (by omega) (hok.kids t (List.mem_of_getElem? ht)) _ (sub_kid hs1 ht) i' m hi
  ·cases hq : i - (flatL b ks).length with
   | zero => rw [hq] at hm; simp at hm; subst hm; exact ⟨b, k, s, ty, n, ks, rfl, hg, hs1⟩
   | succ q => rw [hq] at hm; simp at hm
theorem filled_any {w : World} {v : Value} {t : T} (hT : RdL CeNode 5 w v (flat 0 t)) (hL : sizeT t ≤ 4000) (hg : GT t) : Calls Try.prog 23 #[v] w fun e w' => e = .returned (.bool true) ∧ Kp w w' := by
 have hsub : Sub (flat 0 t) 0 (flat 0 t) := fun i m h => by rw [Nat.zero_add]; exact h
 have HND := hid (node_at (L := flat 0 t) (sizeT t) t (Nat.le_refl _) hL hg 0 hsub)
 have hlen := flat_len 0 t
 obtain ⟨A, c, rfl, _⟩ := hT.form
 generalize flat 0 t = L at hT HND hlen ⊢
 have HT := hid hT
 have HL := hid (show L.length ≤ 4000 by omega)
 clear hT hL hg hsub hlen
 go_enter Try.func23, Try.ntmps23
 go_wp2_with fail
 go_loopw [7] (fun x wr => ∃ i : Nat, i ≤ L.length ∧ x = .int .i64 (i : Int) ∧ Kp w wr) (fun x _ => L.length - (intOf x).toNat)
 case atStart => exact ⟨0, Nat.zero_le _, rfl, Kp.refl _⟩
 case round =>
  obtain ⟨i, hi, rfl, hk⟩ := hrel
  have HK := hid hk
  by_cases hl : i < L.length
  ·have i1 : (i : Int) < (L.length : Int) := by omega
   have HI := hid hl
   obtain ⟨m, hm⟩ : ∃ m, L[i]? = some m := ⟨_, List.getElem?_eq_getElem hl⟩
   obtain ⟨b', k, s, ty, n, ks, rfl, hgt, hsb⟩ := HND.out i m hm
   have hT' := HT.out.kp CeNode.kp hk
   obtain ⟨bt, off, rfl, hbt, lk, g0, g1, g2, g3, g4, _, _, _, _, rk, _⟩ := at_node hT' hm
   obtain ⟨Ak, ck, rfl⟩ := rk.form
   rw [rootsL_len] at rk g4
   have k1 : IntKind.i64.wrap ((i : Int) + 1) = ((i + 1 : Nat) : Int) := by rw [IntKind.wrap_i64]; have := HL.out; omega
   have HK1 := hid k1
   have HGT := hid hgt; have HSB := hid hsb; have HRK := hid rk; have HT' := hid hT'
   clear hi hl hm hT' rk hk k1 hgt hsb
   dsimp only at g0 g1 g2 g3 g4
   go_upto_region 4 with fail
   have hnp := blk_new wr (.cells #[.int .i64 k, .string s, .string ty, .int .i64 n, .slice Ak ks.length ck] 37)
   have hkw := (Kp.refl wr).alloc (.cells #[.int .i64 k, .string s, .string ty, .int .i64 n, .slice Ak ks.length ck] 37)
   have HC := hid (right_any (HT'.out.kp CeNode.kp hkw) HSB.out (HRK.out.kp hkw) HGT.out)
   have HKW := hid hkw
   generalize wr.alloc _ = W at hnp HC HKW ⊢
   have n0 := blk_cell (o := 0) hnp rfl
   have n1 := blk_cell (o := 1) hnp rfl
   have n2 := blk_cell (o := 2) hnp rfl
   have n3 := blk_cell (o := 3) hnp rfl
   have n4 := blk_cell (o := 4) hnp rfl
   have k1 := HK1.out
   clear g0 g1 g2 g3 g4 hnp hkw i1
   go_wp2_with (go_at_call 41; go_must (refine HC.out.mono ?_); rintro e w1 ⟨rfl, hk1⟩)
   exact ⟨⟨i + 1, HI.out, rfl, (HK.out.trans HKW.out).trans hk1⟩, meas_up HI.out⟩
  ·have i1 : ¬ (i : Int) < (L.length : Int) := by omega
   clear hi hl hk
   go_wp2
   go_ret
   exact ⟨rfl, HK.out⟩
theorem good_any {w : World} {v : Value} {t : T} (hT : RdL CeNode 5 w v (flat 0 t)) (hL : sizeT t ≤ 4000) (hg : GT t) (hk : kindT t = 1) : Calls Try.prog 11 #[v] w fun e w' => e = .returned (.bool true) ∧ Kp w w' := by
 have HS := hid (shaped_any hT hL hg hk)
 have HF := hid fun u (h : Kp w u) => filled_any (hT.kp CeNode.kp h) hL hg
 obtain ⟨A, c, rfl, _⟩ := hT.form
 have hlen := flat_len 0 t
 have hpos := sizeT_pos t
 rw [hlen] at HS HF ⊢
 generalize sizeT t = n at HS HF hL hpos ⊢
 have i1 : (0 : Int) < (n : Int) := by omega
 have i2 : (n : Int) ≤ 4000 := by omega
 clear hT hL hg hk hlen hpos
 go_enter Try.func11, Try.ntmps11
 go_wp2_with (first | (go_at_call 22; go_must (refine HS.out.mono ?_); rintro e w1 ⟨rfl, hk1⟩; have HK1 := hid hk1; clear hk1) | (go_at_call 23; go_must (refine (HF.out _ HK1.out).mono ?_); rintro e w2 ⟨rfl, hk2⟩))
 go_ret
 exact ⟨rfl, HK1.out.trans hk2⟩
end Go.Proofs.Ytcjgagmcnmmfoaa.Pa

