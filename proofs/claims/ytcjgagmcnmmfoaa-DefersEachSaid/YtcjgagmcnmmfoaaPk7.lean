/-
  Parts of the proof of a law: DfP, ParY. No condition.
-/
import Derived.Test.YtcjgagmcnmmfoaaPk6
set_option maxRecDepth 20000
set_option maxHeartbeats 16000000
set_option linter.unusedVariables false
set_option linter.unusedSimpArgs false
namespace Go.Proofs.Ytcjgagmcnmmfoaa.Pa
open Go.RowKit

def isFn (k : Int) : Prop := k = 33 ∨ k = 2
instance (k : Int) : Decidable (isFn k) := by unfold isFn; infer_instance
mutual
def ownD (b : Nat) : T → List Nat
 | .node k _ _ _ ks => if isFn k then [] else ownF b ks ++ (if k = 15 then [b + sizeL ks] else [])
def ownF (b : Nat) : List T → List Nat
 | [] => []
 | t :: r => ownD b t ++ ownF (b + sizeT t) r
end
mutual
def lpD (inl : Bool) : T → Bool
 | .node k _ _ _ ks => if isFn k then false else lpF (inl || k == 11) ks || (k == 15 && inl)
def lpF (inl : Bool) : List T → Bool
 | [] => false
 | t :: r => lpD inl t || lpF inl r
end
structure PlM where
 node : Nat
 sites : List Nat
 opn : Bool
def planM (b : Nat) (ks : List T) : PlM := ⟨b + sizeL ks, ownF b ks, !lpF false ks && decide ((ownF b ks).length ≤ 8)⟩
mutual
def flatP (b : Nat) : T → List (Option PlM)
 | .node k _ _ _ ks => flatQ b ks ++ [if isFn k then some (planM b ks) else none]
def flatQ (b : Nat) : List T → List (Option PlM)
 | [] => []
 | t :: r => flatP b t ++ flatQ (b + sizeT t) r
end
mutual
theorem flatP_len : ∀ (b : Nat) (t : T), (flatP b t).length = sizeT t
 | b, .node _ _ _ _ ks => by simp [flatP, sizeT, flatQ_len b ks]
theorem flatQ_len : ∀ (b : Nat) (l : List T), (flatQ b l).length = sizeL l
 | _, [] => rfl
 | b, t :: r => by simp [flatQ, sizeL, flatP_len b t, flatQ_len _ r]
end
def plansOf (l : List (Option PlM)) : List PlM := l.filterMap id
theorem plansOf_app (l m : List (Option PlM)) : plansOf (l ++ m) = plansOf l ++ plansOf m := by simp [plansOf]
def sitesOf (l : List PlM) : List Nat := l.flatMap PlM.sites
theorem sitesOf_app (l m : List PlM) : sitesOf (l ++ m) = sitesOf l ++ sitesOf m := by simp [sitesOf]
mutual
def all15 (b : Nat) : T → List Nat
 | .node k _ _ _ ks => all15L b ks ++ (if k = 15 then [b + sizeL ks] else [])
def all15L (b : Nat) : List T → List Nat
 | [] => []
 | t :: r => all15 b t ++ all15L (b + sizeT t) r
end
mutual
theorem own_at : ∀ (b : Nat) (t : T), ∀ k ∈ ownD b t, b ≤ k ∧ k < b + sizeT t
 | b, .node k _ _ _ ks, j, h => by
  rw [ownD] at h
  split at h
  ·cases h
  ·simp only [sizeT]
   rcases List.mem_append.1 h with h | h
   ·have := own_atF b ks j h; omega
   ·split at h
    ·have := List.mem_singleton.1 h; omega
    ·cases h
theorem own_atF : ∀ (b : Nat) (l : List T), ∀ k ∈ ownF b l, b ≤ k ∧ k < b + sizeL l
 | b, [], j, h => by simp [ownF] at h
 | b, t :: r, j, h => by
  rw [ownF] at h
  simp only [sizeL]
  rcases List.mem_append.1 h with h | h
  ·have := own_at b t j h; omega
  ·have := own_atF (b + sizeT t) r j h; omega
end
mutual
theorem all_own : ∀ (b : Nat) (t : T), ∀ k ∈ ownD b t, k ∈ all15 b t
 | b, .node k _ _ _ ks, j, h => by
  rw [ownD] at h
  split at h
  ·cases h
  ·rw [all15]
   rcases List.mem_append.1 h with h | h
   ·exact List.mem_append.2 (.inl (all_ownF b ks j h))
   ·exact List.mem_append.2 (.inr h)
theorem all_ownF : ∀ (b : Nat) (l : List T), ∀ k ∈ ownF b l, k ∈ all15L b l
 | b, [], j, h => by simp [ownF] at h
 | b, t :: r, j, h => by
  rw [ownF] at h
  rw [all15L]
  rcases List.mem_append.1 h with h | h
  ·exact List.mem_append.2 (.inl (all_own b t j h))
  ·exact List.mem_append.2 (.inr (all_ownF _ r j h))
end
mutual
theorem all15_sort : ∀ (b : Nat) (t : T), (all15 b t).Pairwise (· < ·) ∧ ∀ k ∈ all15 b t, b ≤ k ∧ k < b + sizeT t
 | b, .node k _ _ _ ks => by
  obtain ⟨h1, h2⟩ := all15_sortL b ks
  rw [all15]
  simp only [sizeT]
  constructor
  ·rw [List.pairwise_append]
   refine ⟨h1, ?_, fun x hx y hy => ?_⟩
   ·split <;> simp
   ·have := h2 x hx
    split at hy
    ·have := List.mem_singleton.1 hy; omega
    ·cases hy
  ·intro j hj
   rcases List.mem_append.1 hj with h | h
   ·have := h2 j h; omega
   ·split at h
    ·have := List.mem_singleton.1 h; omega
    ·cases h
theorem all15_sortL : ∀ (b : Nat) (l : List T), (all15L b l).Pairwise (· < ·) ∧ ∀ k ∈ all15L b l, b ≤ k ∧ k < b + sizeL l
 | b, [] => ⟨by simp [all15L], fun k h => by simp [all15L] at h⟩
 | b, t :: r => by
  obtain ⟨h1, h2⟩ := all15_sort b t
  obtain ⟨h3, h4⟩ := all15_sortL (b + sizeT t) r
  rw [all15L]
  simp only [sizeL]
  constructor
  ·rw [List.pairwise_append]
   exact ⟨h1, h3, fun x hx y hy => by have := h2 x hx; have := h4 y hy; omega⟩
  ·intro j hj
   rcases List.mem_append.1 hj with h | h
   ·have := h2 j h; omega
   ·have := h4 j h; omega
end
def c15 (l : List NodeM) : Nat := l.countP fun m => m.kind == 15
theorem c15_app (l m : List NodeM) : c15 (l ++ m) = c15 l + c15 m := by simp [c15]
mutual
theorem all15_cnt : ∀ (b : Nat) (t : T), (all15 b t).length = c15 (flat b t)
 | b, .node k s y n ks => by
  rw [all15, flat, c15_app, List.length_append, all15_cntL b ks]
  by_cases h : k = 15
  ·subst h; simp [c15]
  ·simp [c15, h]
theorem all15_cntL : ∀ (b : Nat) (l : List T), (all15L b l).length = c15 (flatL b l)
 | b, [] => by simp [all15L, flatL, c15]
 | b, t :: r => by rw [all15L, flatL, c15_app, List.length_append, all15_cnt b t, all15_cntL _ r]
end
mutual
theorem all15_kind : ∀ (b : Nat) (t : T), ∀ k ∈ all15 b t, ∃ m, (flat b t)[k - b]? = some m ∧ m.kind = 15
 | b, .node k s y n ks, j, h => by
  rw [all15] at h
  rw [flat]
  rcases List.mem_append.1 h with h | h
  ·obtain ⟨m, h1, h2⟩ := all15_kindL b ks j h
   exact ⟨m, by rw [List.getElem?_append_left (List.getElem?_eq_some_iff.1 h1).1]; exact h1, h2⟩
  ·split at h
   ·rename_i hk
    have := List.mem_singleton.1 h
    subst this
    refine ⟨⟨k, s, y, n, rootsL b ks⟩, ?_, hk⟩
    rw [List.getElem?_append_right (by rw [flatL_len]; omega), flatL_len, show b + sizeL ks - b - sizeL ks = 0 by omega]
    rfl
   ·cases h
theorem all15_kindL : ∀ (b : Nat) (l : List T), ∀ k ∈ all15L b l, ∃ m, (flatL b l)[k - b]? = some m ∧ m.kind = 15
 | b, [], j, h => by simp [all15L] at h
 | b, t :: r, j, h => by
  rw [all15L] at h
  rw [flatL]
  rcases List.mem_append.1 h with h | h
  ·obtain ⟨m, h1, h2⟩ := all15_kind b t j h
   exact ⟨m, by rw [List.getElem?_append_left (List.getElem?_eq_some_iff.1 h1).1]; exact h1, h2⟩
  ·obtain ⟨m, h1, h2⟩ := all15_kindL _ r j h
   have := (all15_sortL _ r).2 j h
   refine ⟨m, ?_, h2⟩
   rw [List.getElem?_append_right (by rw [flat_len]; omega), flat_len, show j - b - sizeT t = j - (b + sizeT t) by omega]
   exact h1
end
mutual
theorem all15_perm : ∀ (b : Nat) (t : T), (all15 b t).Perm (ownD b t ++ sitesOf (plansOf (flatP b t)))
 | b, .node k s y n ks => by
  have ih := all15_permL b ks
  rw [all15, ownD, flatP, plansOf_app, sitesOf_app]
  by_cases hf : isFn k
  ·rw [if_pos hf, if_neg (by intro e; subst e; exact absurd hf (by decide)), if_pos hf]
   simp only [List.append_nil, List.nil_append]
   have e : sitesOf (plansOf [some (planM b ks)]) = ownF b ks := by simp [plansOf, sitesOf, planM]
   rw [e]
   exact ih.trans List.perm_append_comm
  ·rw [if_neg hf, if_neg hf]
   have e : sitesOf (plansOf [none]) = [] := by simp [plansOf, sitesOf]
   rw [e, List.append_nil]
   refine (ih.append_right _).trans ?_
   rw [List.append_assoc, List.append_assoc]
   exact List.perm_append_comm.append_left _
theorem all15_permL : ∀ (b : Nat) (l : List T), (all15L b l).Perm (ownF b l ++ sitesOf (plansOf (flatQ b l)))
 | b, [] => by simp [all15L, ownF, flatQ, plansOf, sitesOf]
 | b, t :: r => by
  have h1 := all15_perm b t
  have h2 := all15_permL (b + sizeT t) r
  rw [all15L, ownF, flatQ, plansOf_app, sitesOf_app]
  refine (h1.append h2).trans ?_
  rw [List.append_assoc, List.append_assoc]
  refine List.Perm.append_left _ ?_
  rw [← List.append_assoc, ← List.append_assoc]
  exact List.perm_append_comm.append_right _
end
mutual
theorem plans_sort : ∀ (b : Nat) (t : T), (plansOf (flatP b t)).Pairwise (fun p q => p.node < q.node) ∧ ∀ p ∈ plansOf (flatP b t), b ≤ p.node ∧ p.node < b + sizeT t ∧ (∀ k ∈ p.sites, k < p.node ∧ k ∈ all15 b t) ∧ (p.opn = true → p.sites.length ≤ 8)
 | b, .node k s y n ks => by
  obtain ⟨h1, h2⟩ := plans_sortL b ks
  rw [flatP, plansOf_app]
  simp only [sizeT]
  constructor
  ·rw [List.pairwise_append]
   refine ⟨h1, ?_, fun p hp q hq => ?_⟩
   ·split <;> simp [plansOf]
   ·have := h2 p hp
    split at hq
    ·have hq : q = planM b ks := by simpa [plansOf] using hq
     subst hq
     simp only [planM]; omega
    ·simp [plansOf] at hq
  ·intro p hp
   rcases List.mem_append.1 hp with h | h
   ·obtain ⟨g1, g2, g3, g4⟩ := h2 p h
    exact ⟨g1, by omega, fun j hj => ⟨(g3 j hj).1, by rw [all15]; exact List.mem_append.2 (.inl (g3 j hj).2)⟩, g4⟩
   ·split at h
    ·have h : p = planM b ks := by simpa [plansOf] using h
     subst h
     refine ⟨by simp only [planM]; omega, by simp only [planM]; omega, fun j hj => ?_, fun ho => ?_⟩
     ·have h5 := own_atF b ks j hj
      exact ⟨by simp only [planM]; omega, by rw [all15]; exact List.mem_append.2 (.inl (all_ownF b ks j hj))⟩
     ·simp only [planM, Bool.and_eq_true, decide_eq_true_eq] at ho ⊢
      exact ho.2
    ·simp [plansOf] at h
theorem plans_sortL : ∀ (b : Nat) (l : List T), (plansOf (flatQ b l)).Pairwise (fun p q => p.node < q.node) ∧ ∀ p ∈ plansOf (flatQ b l), b ≤ p.node ∧ p.node < b + sizeL l ∧ (∀ k ∈ p.sites, k < p.node ∧ k ∈ all15L b l) ∧ (p.opn = true → p.sites.length ≤ 8)
 | b, [] => ⟨by simp [flatQ, plansOf], fun p h => by simp [flatQ, plansOf] at h⟩
 | b, t :: r => by
  obtain ⟨h1, h2⟩ := plans_sort b t
  obtain ⟨h3, h4⟩ := plans_sortL (b + sizeT t) r
  rw [flatQ, plansOf_app]
  simp only [sizeL]
  constructor
  ·rw [List.pairwise_append]
   exact ⟨h1, h3, fun p hp q hq => by have := h2 p hp; have := h4 q hq; omega⟩
  ·intro p hp
   rcases List.mem_append.1 hp with h | h
   ·obtain ⟨g1, g2, g3, g4⟩ := h2 p h
    exact ⟨g1, by omega, fun j hj => ⟨(g3 j hj).1, by rw [all15L]; exact List.mem_append.2 (.inl (g3 j hj).2)⟩, g4⟩
   ·obtain ⟨g1, g2, g3, g4⟩ := h4 p h
    exact ⟨by omega, by omega, fun j hj => ⟨(g3 j hj).1, by rw [all15L]; exact List.mem_append.2 (.inr (g3 j hj).2)⟩, g4⟩
end
theorem ownF_funs : ∀ (b : Nat) (l : List T), (∀ t ∈ l, kindT t = 2) → ownF b l = []
 | b, [], _ => rfl
 | b, .node k s y n ks :: r, h => by
  have hk : k = 2 := h (.node k s y n ks) (by simp)
  rw [ownF, ownD, if_pos (.inr hk), ownF_funs _ r fun t ht => h t (by simp [ht])]
  rfl
theorem flatQ_at : ∀ {ks : List T} {b i : Nat} {m : NodeM}, (flatL b ks)[i]? = some m → ∃ (j : Nat) (t : T), ks[j]? = some t ∧ ∃ i' : Nat, (flat (b + sizeL (ks.take j)) t)[i']? = some m ∧ i = sizeL (ks.take j) + i' ∧ (flatQ b ks)[i]? = (flatP (b + sizeL (ks.take j)) t)[i']?
 | [], b, i, m, h => by simp [flatL] at h
 | t :: r, b, i, m, h => by
  rw [flatL, List.getElem?_append] at h
  split at h
  ·rename_i hi
   rw [flat_len] at hi
   exact ⟨0, t, rfl, i, by simpa [sizeL] using h, by simp [sizeL], by rw [flatQ, List.getElem?_append_left (by rw [flatP_len]; exact hi)]; simp [sizeL]⟩
  ·rename_i hi
   rw [flat_len] at hi h
   obtain ⟨j, u, h1, i', h2, h3, h4⟩ := flatQ_at h
   refine ⟨j + 1, u, by simpa using h1, i', ?_, ?_, ?_⟩
   ·rw [List.take_succ_cons, sizeL, ← Nat.add_assoc]
    exact h2
   ·rw [List.take_succ_cons, sizeL]; omega
   ·rw [flatQ, List.getElem?_append_right (by rw [flatP_len]; omega), flatP_len, h4, List.take_succ_cons, sizeL, ← Nat.add_assoc]
theorem plan_at {L : List NodeM} : ∀ (N : Nat) (t : T), sizeT t ≤ N → ∀ b, Sub L b (flat b t) → ∀ (i : Nat) (m : NodeM), (flat b t)[i]? = some m → ∃ b' k s ty n ks, m = ⟨k, s, ty, n, rootsL b' ks⟩ ∧ Sub L b' (flatL b' ks) ∧ b + i = b' + sizeL ks ∧ (flatP b t)[i]? = some (if isFn k then some (planM b' ks) else none)
 | 0, t, h, _, _, _, _, _ => absurd h (by have := sizeT_pos t; omega)
 | N + 1, .node k s ty n ks, h, b, hs, i, m, hm => by
  have hsl : sizeL ks ≤ N := by simp only [sizeT] at h; omega
  have hs1 : Sub L b (flatL b ks) := by rw [flat] at hs; exact hs.left
  rw [flat, List.getElem?_append] at hm
  split at hm
  ·rename_i hi
   rw [flatL_len] at hi
   obtain ⟨j, t, ht, i', h1, h2, h3⟩ := flatQ_at hm
   obtain ⟨b', k', s', ty', n', ks', g1, g2, g3, g4⟩ := plan_at N t (by have := size_le ht; omega) _ (sub_kid hs1 ht) i' m h1
   exact ⟨b', k', s', ty', n', ks', g1, g2, by omega, by rw [flatP, List.getElem?_append_left (by rw [flatQ_len]; exact hi), h3]; exact g4⟩
  ·rename_i hi
   rw [flatL_len] at hm hi
   cases hq : i - sizeL ks with
   | zero =>
    rw [hq] at hm; simp at hm; subst hm
    exact ⟨b, k, s, ty, n, ks, rfl, hs1, by omega, by rw [flatP, List.getElem?_append_right (by rw [flatQ_len]; omega), flatQ_len, hq]; rfl⟩
   | succ q => rw [hq] at hm; simp at hm
end Go.Proofs.Ytcjgagmcnmmfoaa.Pa

namespace Go.Proofs.Ytcjgagmcnmmfoaa.Pa
open Go.RowKit

theorem func_len {l : List ByteArray} {R : ByteArray} (h : (Ty.funcM l R).2 = 0) : (sB (Ty.funcM l R).1).size ≤ 1000 := by
 unfold Ty.funcM at h ⊢
 split at h
 ·simp at h
 ·split at h
  ·simp at h
  ·split at h
   ·simp at h
   ·split at h
    ·simp at h
    ·rename_i h1 h2 h3 h4
     rw [if_neg h1, if_neg h2, if_neg h3, if_neg h4]
     simp [sB, ByteArray.size]; omega
theorem rdS_own {w : World} {base : Nat} {v : Value} {l : List ByteArray} (h : OwnS w base v l) : Ty.RdS w v l := by
 rcases Nat.eq_zero_or_pos l.length with h0 | h0
 ·obtain rfl := List.eq_nil_of_length_eq_zero h0
  obtain ⟨A, c, rfl⟩ := own_form h
  exact ⟨A, c, rfl, Nat.zero_le _, fun i x hi => by simp at hi⟩
 ·obtain ⟨g, c, rfl, hc⟩ := rowSome h h0
  refine ⟨_, c, rfl, hc, fun i x hi => ⟨g, 0, rfl, (rowGe h).2, ?_⟩⟩
  have hil := (List.getElem?_eq_some_iff.1 hi).1
  rw [Nat.zero_add, (rowAt h (j := i) (by omega)).1, List.getElem?_map, hi]; rfl
theorem OwnS.gr {rp base : Nat} {w w' : World} {v : Value} {ss : List ByteArray} (h : OwnS w base v ss) (hg : w.grownBy w' (some rp)) (hb : rp < base) : OwnS w' base v ss := by
 refine World.ownsRow.kept h hg ?_
 cases hq : v.ownBlock with
 | none => exact .inl rfl
 | some g => exact .inr (fun e => by injection e with e; have := (World.ownsRow.lt h g hq).1; omega)
theorem grown_own {rp : Nat} {w w1 w2 : World} {row : Option Nat} (h : w.grownBy w1 (some rp)) (hg : w1.grownBy w2 row) (hr : ∀ g, row = some g → w.heap.size ≤ g) : w.grownBy w2 (some rp) :=
 ⟨hg.os.trans h.os, hg.tape.trans h.tape, hg.output.trans h.output, Nat.le_trans h.size hg.size, fun k hk hne => (hg.block k (Nat.lt_of_lt_of_le hk h.size) (fun e => by have := hr k e.symm; omega)).trans (h.block k hk hne)⟩
theorem PrsV.grownS {w1 w2 : World} {rp base : Nat} {L : List TokenM} {l : List Tk} {ps : List GNode} {s : Nat} {lv tv v : Value} {ss : List ByteArray} (h : PrsV w1 rp L l ps s lv tv) (ho : OwnS w1 base v ss) (hb : rp < base) (hg : w1.grownBy w2 v.ownBlock) : PrsV w2 rp L l ps s lv tv := by
 have key : ∀ (k : Nat) (o : Obj), w1.heap[k]? = some o → (∀ cs fr, o ≠ Obj.cells cs 9 fr) → w2.heap[k]? = some o := fun k o hk hn => by
  refine grown_blk hg hk (fun e => ?_)
  rcases ho.2 with ⟨rfl, _⟩ | ⟨g, cap, cur, rfl, _, hgg, _⟩
  ·cases e
  ·simp only [Value.ownBlock, Option.some.injEq] at e
   subst e
   rw [hgg] at hk
   exact hn _ _ (Option.some.inj hk).symm
 obtain ⟨n, q⟩ := h
 have ow : ∀ {e : TypeId} {size m base : Nat} {v : Value} {xs : List Value}, e ≠ 9 → w1.ownsRow base e size v m xs → w2.ownsRow base e size v m xs := by
  intro e size m base v xs he hx
  obtain ⟨x1, x2⟩ := hx
  refine ⟨x1, ?_⟩
  rcases x2 with x2 | ⟨g, cap, cur, y1, y2, y3, y4⟩
  ·exact .inl x2
  ·exact .inr ⟨g, cap, cur, y1, y2, key g _ y3 (fun cs fr e' => by injection e' with _ e' _; exact he e'), y4⟩
 refine ⟨n, key _ _ q.blk (fun cs fr e => by injection e with _ e _; exact absurd e (by decide)), ?_, ?_, q.here, q.rest, q.nd, q.bd, q.lt⟩
 ·obtain ⟨u0, h1, h2, h3⟩ := q.toks
  exact ⟨u0, h1, h2, h3.grown hg q.le (fun k hk => Nat.le_trans (Nat.le_of_lt hb) (World.ownsRow.lt ho k hk).1)⟩
 ·obtain ⟨ys, h1, h2⟩ := q.tree
  exact ⟨ys, ow (by decide) h1, chunk_mem (fun cs a _ hc => ⟨hc.1, ow (by decide) hc.2.1, hc.2.2⟩) h2⟩
theorem PrsV.at_ {w : World} {rp : Nat} {L : List TokenM} {l : List Tk} {ps : List GNode} {s : Nat} {lv tv : Value} (h : PrsV w rp L l ps s lv tv) : L.length - atOf w rp = l.length := by
 obtain ⟨n, hp⟩ := h
 have := hp.here
 unfold atOf
 rw [hp.c1]
 simp; omega
theorem PrsV.lt {w : World} {rp : Nat} {L : List TokenM} {l : List Tk} {ps : List GNode} {s : Nat} {lv tv : Value} (h : PrsV w rp L l ps s lv tv) : rp < w.heap.size := by
 obtain ⟨n, hp⟩ := h; exact hp.rp_lt
theorem pkBox {rp rb j : Nat} {w w1 : World} (h : Pk rp w w1) (h1 : w.heap.size ≤ rb) (h2 : rp < rb) (v : Value) : Pk rp w (w1.setCell ⟨rb, j, none⟩ v) :=
 ⟨h.1.setCell (p := ⟨rb, j, none⟩) (Nat.le_of_lt h2) v, fun k o k1 k2 k3 => (blk_far (p := ⟨rb, j, none⟩) (show k ≠ rb by have := blk_lt k1; omega) v).trans (h.2 k o k1 k2 k3)⟩
theorem PrsV.text_ok {w : World} {rp : Nat} {L : List TokenM} {l : List Tk} {ps : List GNode} {s : Nat} {lv tv : Value} {b : Bs} (h : PrsV w rp L l ps s lv tv) (hs : isSign b l = true) : (textOf l.tail).size ≤ 140737488351232 := by
 obtain ⟨n, hp⟩ := h
 cases l with
 | nil => cases hs
 | cons t r =>
  have hp := hp.adv
  cases r with
  | nil => show noB.size ≤ _; decide
  | cons t2 r2 =>
   obtain ⟨_, _, _, _, _, _, _, _, _, _, _, _, _, hh, _⟩ := hp.tok
   exact hh
theorem PrsV.short {w : World} {rp : Nat} {L : List TokenM} {l : List Tk} {ps : List GNode} {s : Nat} {lv tv : Value} (h : PrsV w rp L l ps s lv tv) : l.length ≤ 2000 := by
 obtain ⟨n, hp⟩ := h
 have := hp.here; have := hp.lt; omega
theorem func_v {w : World} {base : Nat} {v : Value} {us : List Bs} {q : Bs} (ho : OwnS w base v (us.map sB)) (hz : ∀ x ∈ us, (sB x).size ≤ 1000) (hu : us.length ≤ 2000) (hq : (sB q).size ≤ 1000) : Calls Try.prog 48 #[v, .string (sB q)] w fun e w' => e = .returned (.tuple #[.string (sB (Ty.funcM (us.map sB) (sB q)).1), .int .i64 (Ty.funcM (us.map sB) (sB q)).2]) ∧ Kp w w' :=
 Ty.func_any w v (us.map sB) (sB q) (rdS_own ho) (fun x hx => by obtain ⟨b, hb, rfl⟩ := List.mem_map.1 hx; exact Nat.le_trans (hz b hb) (by decide)) (Nat.le_trans hq (by decide)) (by rw [List.length_map]; omega)
theorem PrsV.below {w w1 w2 : World} {rp : Nat} {L : List TokenM} {l : List Tk} {ps : List GNode} {s : Nat} {lv tv : Value} (h : PrsV w rp L l ps s lv tv) (hg : w.grownBy w1 (some rp)) (hk : Kp w1 w2) : Below rp w w2 :=
 (Pk.of_grown (hg.trans (grown_kp hk _)) (Nat.le_of_lt h.lt)).1
theorem PrsV.below2 {w w1 w2 : World} {rp : Nat} {L : List TokenM} {l : List Tk} {ps : List GNode} {s : Nat} {lv tv : Value} (h : PrsV w rp L l ps s lv tv) (hg : w.grownBy w1 (some rp)) (hb : Below rp w1 w2) : Below rp w w2 :=
 Below.trans (Pk.of_grown hg (Nat.le_of_lt h.lt)).1 hb
@[go_sem] theorem ty4_idx0 (w : World) : Sem.run Try.prog (Instr.index 83 (.agg #[.string ⟨#[105, 110, 116]⟩, .string ⟨#[98, 111, 111, 108]⟩, .string ⟨#[115, 116, 114, 105, 110, 103]⟩, .string ⟨#[97, 110, 121]⟩]) (.int .i64 0)) w = .ok (.string ⟨#[105, 110, 116]⟩) w := by kernel_rfl
@[go_sem] theorem ty4_idx1 (w : World) : Sem.run Try.prog (Instr.index 83 (.agg #[.string ⟨#[105, 110, 116]⟩, .string ⟨#[98, 111, 111, 108]⟩, .string ⟨#[115, 116, 114, 105, 110, 103]⟩, .string ⟨#[97, 110, 121]⟩]) (.int .i64 1)) w = .ok (.string ⟨#[98, 111, 111, 108]⟩) w := by kernel_rfl
@[go_sem] theorem ty4_idx2 (w : World) : Sem.run Try.prog (Instr.index 83 (.agg #[.string ⟨#[105, 110, 116]⟩, .string ⟨#[98, 111, 111, 108]⟩, .string ⟨#[115, 116, 114, 105, 110, 103]⟩, .string ⟨#[97, 110, 121]⟩]) (.int .i64 2)) w = .ok (.string ⟨#[115, 116, 114, 105, 110, 103]⟩) w := by kernel_rfl
@[go_sem] theorem ty4_idx3 (w : World) : Sem.run Try.prog (Instr.index 83 (.agg #[.string ⟨#[105, 110, 116]⟩, .string ⟨#[98, 111, 111, 108]⟩, .string ⟨#[115, 116, 114, 105, 110, 103]⟩, .string ⟨#[97, 110, 121]⟩]) (.int .i64 3)) w = .ok (.string ⟨#[97, 110, 121]⟩) w := by kernel_rfl
@[go_sem] theorem ty7_idx0 (w : World) : Sem.run Try.prog (Instr.index 86 (.agg #[.string ⟨#[105, 110, 116]⟩, .string ⟨#[98, 111, 111, 108]⟩, .string ⟨#[115, 116, 114, 105, 110, 103]⟩, .string ⟨#[97, 110, 121]⟩, .string ⟨#[91]⟩, .string ⟨#[42]⟩, .string ⟨#[102, 117, 110, 99]⟩]) (.int .i64 0)) w = .ok (.string ⟨#[105, 110, 116]⟩) w := by kernel_rfl
@[go_sem] theorem ty7_idx1 (w : World) : Sem.run Try.prog (Instr.index 86 (.agg #[.string ⟨#[105, 110, 116]⟩, .string ⟨#[98, 111, 111, 108]⟩, .string ⟨#[115, 116, 114, 105, 110, 103]⟩, .string ⟨#[97, 110, 121]⟩, .string ⟨#[91]⟩, .string ⟨#[42]⟩, .string ⟨#[102, 117, 110, 99]⟩]) (.int .i64 1)) w = .ok (.string ⟨#[98, 111, 111, 108]⟩) w := by kernel_rfl
@[go_sem] theorem ty7_idx2 (w : World) : Sem.run Try.prog (Instr.index 86 (.agg #[.string ⟨#[105, 110, 116]⟩, .string ⟨#[98, 111, 111, 108]⟩, .string ⟨#[115, 116, 114, 105, 110, 103]⟩, .string ⟨#[97, 110, 121]⟩, .string ⟨#[91]⟩, .string ⟨#[42]⟩, .string ⟨#[102, 117, 110, 99]⟩]) (.int .i64 2)) w = .ok (.string ⟨#[115, 116, 114, 105, 110, 103]⟩) w := by kernel_rfl
@[go_sem] theorem ty7_idx3 (w : World) : Sem.run Try.prog (Instr.index 86 (.agg #[.string ⟨#[105, 110, 116]⟩, .string ⟨#[98, 111, 111, 108]⟩, .string ⟨#[115, 116, 114, 105, 110, 103]⟩, .string ⟨#[97, 110, 121]⟩, .string ⟨#[91]⟩, .string ⟨#[42]⟩, .string ⟨#[102, 117, 110, 99]⟩]) (.int .i64 3)) w = .ok (.string ⟨#[97, 110, 121]⟩) w := by kernel_rfl
@[go_sem] theorem ty7_idx4 (w : World) : Sem.run Try.prog (Instr.index 86 (.agg #[.string ⟨#[105, 110, 116]⟩, .string ⟨#[98, 111, 111, 108]⟩, .string ⟨#[115, 116, 114, 105, 110, 103]⟩, .string ⟨#[97, 110, 121]⟩, .string ⟨#[91]⟩, .string ⟨#[42]⟩, .string ⟨#[102, 117, 110, 99]⟩]) (.int .i64 4)) w = .ok (.string ⟨#[91]⟩) w := by kernel_rfl
@[go_sem] theorem ty7_idx5 (w : World) : Sem.run Try.prog (Instr.index 86 (.agg #[.string ⟨#[105, 110, 116]⟩, .string ⟨#[98, 111, 111, 108]⟩, .string ⟨#[115, 116, 114, 105, 110, 103]⟩, .string ⟨#[97, 110, 121]⟩, .string ⟨#[91]⟩, .string ⟨#[42]⟩, .string ⟨#[102, 117, 110, 99]⟩]) (.int .i64 5)) w = .ok (.string ⟨#[42]⟩) w := by kernel_rfl
@[go_sem] theorem ty7_idx6 (w : World) : Sem.run Try.prog (Instr.index 86 (.agg #[.string ⟨#[105, 110, 116]⟩, .string ⟨#[98, 111, 111, 108]⟩, .string ⟨#[115, 116, 114, 105, 110, 103]⟩, .string ⟨#[97, 110, 121]⟩, .string ⟨#[91]⟩, .string ⟨#[42]⟩, .string ⟨#[102, 117, 110, 99]⟩]) (.int .i64 6)) w = .ok (.string ⟨#[102, 117, 110, 99]⟩) w := by kernel_rfl
theorem typed_v {w : World} {rp : Nat} {L : List TokenM} {l : List Tk} {ps : List GNode} {s : Nat} {lv tv : Value} (h : PrsV w rp L l ps s lv tv) : Calls Try.prog 37 #[.pointer (some ⟨rp, 0, none⟩)] w fun e w' => e = .returned (.bool (typed l)) ∧ Kp w w' := by
 have HV0 := hid h
 clear h
 go_enter Try.func37, Try.ntmps37
 go_wp2_with fail
 go_loopw [4, 6] (fun _ i wr => ∃ k : Nat, i = .int .i64 (k : Int) ∧ k ≤ 7 ∧ (∀ j, j < k → isSign (tyHeads.getD j []) l = false) ∧ Kp w wr) (fun _ i _ => 7 - (intOf i).toNat)
 case atStart => exact ⟨0, rfl, by omega, fun j h => by omega, Kp.refl _⟩
 case round =>
  obtain ⟨k, rfl, hk, hf, hkk⟩ := hrel
  have HF := hid hf
  have HKK := hid hkk
  clear hf hkk
  obtain rfl | rfl | rfl | rfl | rfl | rfl | rfl | rfl : k = 0 ∨ k = 1 ∨ k = 2 ∨ k = 3 ∨ k = 4 ∨ k = 5 ∨ k = 6 ∨ k = 7 := by omega
  ·clear hk
   by_cases c : isSign [105, 110, 116] l = true
   ·go_wp2_with (go_at_call 49; go_must (refine (looks_any _ rp ⟨#[105, 110, 116]⟩ [105, 110, 116] rfl (HV0.out.kp HKK.out).e).mono ?_); rintro e wn ⟨rfl, hk⟩; rw [c]; have HKK := hid (HKK.out.trans hk); clear hk)
    go_ret
    exact ⟨by rw [show typed l = true from List.any_eq_true.2 ⟨[105, 110, 116], by decide, c⟩]; rfl, HKK.out⟩
   ·have g := eq_false_of_ne_true c
    clear c
    go_wp2_with (go_at_call 49; go_must (refine (looks_any _ rp ⟨#[105, 110, 116]⟩ [105, 110, 116] rfl (HV0.out.kp HKK.out).e).mono ?_); rintro e wn ⟨rfl, hk⟩; rw [g]; have HKK := hid (HKK.out.trans hk); clear hk)
    refine ⟨⟨1, rfl, by omega, fun j hj => ?_, HKK.out⟩, by simp only [intOf]; omega⟩
    rcases Nat.lt_or_ge j 0 with h | h
    ·exact HF.out j h
    ·obtain rfl : j = 0 := by omega
     exact g
  ·clear hk
   by_cases c : isSign [98, 111, 111, 108] l = true
   ·go_wp2_with (go_at_call 49; go_must (refine (looks_any _ rp ⟨#[98, 111, 111, 108]⟩ [98, 111, 111, 108] rfl (HV0.out.kp HKK.out).e).mono ?_); rintro e wn ⟨rfl, hk⟩; rw [c]; have HKK := hid (HKK.out.trans hk); clear hk)
    go_ret
    exact ⟨by rw [show typed l = true from List.any_eq_true.2 ⟨[98, 111, 111, 108], by decide, c⟩]; rfl, HKK.out⟩
   ·have g := eq_false_of_ne_true c
    clear c
    go_wp2_with (go_at_call 49; go_must (refine (looks_any _ rp ⟨#[98, 111, 111, 108]⟩ [98, 111, 111, 108] rfl (HV0.out.kp HKK.out).e).mono ?_); rintro e wn ⟨rfl, hk⟩; rw [g]; have HKK := hid (HKK.out.trans hk); clear hk)
    refine ⟨⟨2, rfl, by omega, fun j hj => ?_, HKK.out⟩, by simp only [intOf]; omega⟩
    rcases Nat.lt_or_ge j 1 with h | h
    ·exact HF.out j h
    ·obtain rfl : j = 1 := by omega
     exact g
  ·clear hk
   by_cases c : isSign [115, 116, 114, 105, 110, 103] l = true
   ·go_wp2_with (go_at_call 49; go_must (refine (looks_any _ rp ⟨#[115, 116, 114, 105, 110, 103]⟩ [115, 116, 114, 105, 110, 103] rfl (HV0.out.kp HKK.out).e).mono ?_); rintro e wn ⟨rfl, hk⟩; rw [c]; have HKK := hid (HKK.out.trans hk); clear hk)
    go_ret
    exact ⟨by rw [show typed l = true from List.any_eq_true.2 ⟨[115, 116, 114, 105, 110, 103], by decide, c⟩]; rfl, HKK.out⟩
   ·have g := eq_false_of_ne_true c
    clear c
    go_wp2_with (go_at_call 49; go_must (refine (looks_any _ rp ⟨#[115, 116, 114, 105, 110, 103]⟩ [115, 116, 114, 105, 110, 103] rfl (HV0.out.kp HKK.out).e).mono ?_); rintro e wn ⟨rfl, hk⟩; rw [g]; have HKK := hid (HKK.out.trans hk); clear hk)
    refine ⟨⟨3, rfl, by omega, fun j hj => ?_, HKK.out⟩, by simp only [intOf]; omega⟩
    rcases Nat.lt_or_ge j 2 with h | h
    ·exact HF.out j h
    ·obtain rfl : j = 2 := by omega
     exact g
  ·clear hk
   by_cases c : isSign [97, 110, 121] l = true
   ·go_wp2_with (go_at_call 49; go_must (refine (looks_any _ rp ⟨#[97, 110, 121]⟩ [97, 110, 121] rfl (HV0.out.kp HKK.out).e).mono ?_); rintro e wn ⟨rfl, hk⟩; rw [c]; have HKK := hid (HKK.out.trans hk); clear hk)
    go_ret
    exact ⟨by rw [show typed l = true from List.any_eq_true.2 ⟨[97, 110, 121], by decide, c⟩]; rfl, HKK.out⟩
   ·have g := eq_false_of_ne_true c
    clear c
    go_wp2_with (go_at_call 49; go_must (refine (looks_any _ rp ⟨#[97, 110, 121]⟩ [97, 110, 121] rfl (HV0.out.kp HKK.out).e).mono ?_); rintro e wn ⟨rfl, hk⟩; rw [g]; have HKK := hid (HKK.out.trans hk); clear hk)
    refine ⟨⟨4, rfl, by omega, fun j hj => ?_, HKK.out⟩, by simp only [intOf]; omega⟩
    rcases Nat.lt_or_ge j 3 with h | h
    ·exact HF.out j h
    ·obtain rfl : j = 3 := by omega
     exact g
  ·clear hk
   by_cases c : isSign [91] l = true
   ·go_wp2_with (go_at_call 49; go_must (refine (looks_any _ rp ⟨#[91]⟩ [91] rfl (HV0.out.kp HKK.out).e).mono ?_); rintro e wn ⟨rfl, hk⟩; rw [c]; have HKK := hid (HKK.out.trans hk); clear hk)
    go_ret
    exact ⟨by rw [show typed l = true from List.any_eq_true.2 ⟨[91], by decide, c⟩]; rfl, HKK.out⟩
   ·have g := eq_false_of_ne_true c
    clear c
    go_wp2_with (go_at_call 49; go_must (refine (looks_any _ rp ⟨#[91]⟩ [91] rfl (HV0.out.kp HKK.out).e).mono ?_); rintro e wn ⟨rfl, hk⟩; rw [g]; have HKK := hid (HKK.out.trans hk); clear hk)
    refine ⟨⟨5, rfl, by omega, fun j hj => ?_, HKK.out⟩, by simp only [intOf]; omega⟩
    rcases Nat.lt_or_ge j 4 with h | h
    ·exact HF.out j h
    ·obtain rfl : j = 4 := by omega
     exact g
  ·clear hk
   by_cases c : isSign [42] l = true
   ·go_wp2_with (go_at_call 49; go_must (refine (looks_any _ rp ⟨#[42]⟩ [42] rfl (HV0.out.kp HKK.out).e).mono ?_); rintro e wn ⟨rfl, hk⟩; rw [c]; have HKK := hid (HKK.out.trans hk); clear hk)
    go_ret
    exact ⟨by rw [show typed l = true from List.any_eq_true.2 ⟨[42], by decide, c⟩]; rfl, HKK.out⟩
   ·have g := eq_false_of_ne_true c
    clear c
    go_wp2_with (go_at_call 49; go_must (refine (looks_any _ rp ⟨#[42]⟩ [42] rfl (HV0.out.kp HKK.out).e).mono ?_); rintro e wn ⟨rfl, hk⟩; rw [g]; have HKK := hid (HKK.out.trans hk); clear hk)
    refine ⟨⟨6, rfl, by omega, fun j hj => ?_, HKK.out⟩, by simp only [intOf]; omega⟩
    rcases Nat.lt_or_ge j 5 with h | h
    ·exact HF.out j h
    ·obtain rfl : j = 5 := by omega
     exact g
  ·clear hk
   by_cases c : isSign [102, 117, 110, 99] l = true
   ·go_wp2_with (go_at_call 49; go_must (refine (looks_any _ rp ⟨#[102, 117, 110, 99]⟩ [102, 117, 110, 99] rfl (HV0.out.kp HKK.out).e).mono ?_); rintro e wn ⟨rfl, hk⟩; rw [c]; have HKK := hid (HKK.out.trans hk); clear hk)
    go_ret
    exact ⟨by rw [show typed l = true from List.any_eq_true.2 ⟨[102, 117, 110, 99], by decide, c⟩]; rfl, HKK.out⟩
   ·have g := eq_false_of_ne_true c
    clear c
    go_wp2_with (go_at_call 49; go_must (refine (looks_any _ rp ⟨#[102, 117, 110, 99]⟩ [102, 117, 110, 99] rfl (HV0.out.kp HKK.out).e).mono ?_); rintro e wn ⟨rfl, hk⟩; rw [g]; have HKK := hid (HKK.out.trans hk); clear hk)
    refine ⟨⟨7, rfl, by omega, fun j hj => ?_, HKK.out⟩, by simp only [intOf]; omega⟩
    rcases Nat.lt_or_ge j 6 with h | h
    ·exact HF.out j h
    ·obtain rfl : j = 6 := by omega
     exact g
  ·have hn : typed l = false := by
    have g := HF.out
    simp [typed, tyHeads, show isSign (kInt) l = false from g 0 (by omega), show isSign (kBool) l = false from g 1 (by omega), show isSign (kString) l = false from g 2 (by omega), show isSign (kAny) l = false from g 3 (by omega), show isSign ([91]) l = false from g 4 (by omega), show isSign ([42]) l = false from g 5 (by omega), show isSign (kFunc) l = false from g 6 (by omega)]
   go_wp2_with fail
   go_ret
   exact ⟨by rw [hn]; rfl, HKK.out⟩
theorem typ_v : ∀ f, CV 36 (typF f) := by
 intro f
 induction f using Nat.strongRecOn with
 | _ f IH =>
  cases f with
  | zero => intro w rp L l ps s lv tv h hne; exact absurd (by rw [typF]) hne
  | succ f =>
   have H : ∀ g, g ≤ f → CV 36 (typF g) := fun g hg => IH g (by omega)
   clear IH
   intro w rp L l qs s lv tv h hne
   have HV := hid h
   have HV0 := hid h
   have HNE := hid hne
   clear h hne
   go_enter Try.func36, Try.ntmps36
   go_wp2_with fail
   go_loopw [4, 10] (fun _ i wr => ∃ k : Nat, i = .int .i64 (k : Int) ∧ k ≤ 4 ∧ (∀ j, j < k → isSign (tyNames.getD j []) l = false) ∧ Kp w wr) (fun _ i _ => 4 - (intOf i).toNat)
   case atStart => exact ⟨0, rfl, by omega, fun j h => by omega, Kp.refl _⟩
   case round =>
    obtain ⟨k, rfl, hk, hf, hkk⟩ := hrel
    have HF := hid hf
    have HV := hid (HV.out.kp hkk)
    have HG := hid (grown_kp hkk (some rp))
    have HKK := hid hkk
    clear hf hkk
    obtain rfl | rfl | rfl | rfl | rfl : k = 0 ∨ k = 1 ∨ k = 2 ∨ k = 3 ∨ k = 4 := by omega
    ·clear hk
     by_cases c : isSign [105, 110, 116] l = true
     ·have hf : firstOf tyNames l = some kInt := by simp [firstOf, tyNames, show isSign kInt l = true from c]
      have hr : typF (f + 1) l = .ok kInt l.tail := by rw [typF, hf]
      have HR := hid hr
      clear hr hf
      go_wp2_with (go_at_call 35; go_must (refine (sign_yes _ rp ⟨#[105, 110, 116]⟩ [105, 110, 116] rfl HV.out c).mono ?_); rintro e wn ⟨rfl, hs, hk⟩; have HV := hid hs; have HG := hid (HG.out.trans hk); clear hs hk)
      go_ret
      rw [HR.out]
      exact ⟨rfl, by decide, HV.out.weak (by omega), HG.out⟩
     ·have g := eq_false_of_ne_true c
      clear c
      go_wp2_with (go_at_call 35; go_must (refine (sign_no _ rp ⟨#[105, 110, 116]⟩ [105, 110, 116] rfl HV.out.e g).mono ?_); rintro e wn ⟨rfl, hk⟩; have HKK := hid (HKK.out.trans hk); clear hk)
      refine ⟨⟨1, rfl, by omega, fun j hj => ?_, HKK.out⟩, by simp only [intOf]; omega⟩
      rcases Nat.lt_or_ge j 0 with h | h
      ·exact HF.out j h
      ·obtain rfl : j = 0 := by omega
       exact g
    ·clear hk
     by_cases c : isSign [98, 111, 111, 108] l = true
     ·have f0 := HF.out 0 (by omega)
      have hf : firstOf tyNames l = some kBool := by simp [firstOf, tyNames, show isSign kInt l = false from f0, show isSign kBool l = true from c]
      have hr : typF (f + 1) l = .ok kBool l.tail := by rw [typF, hf]
      have HR := hid hr
      clear hr hf f0
      go_wp2_with (go_at_call 35; go_must (refine (sign_yes _ rp ⟨#[98, 111, 111, 108]⟩ [98, 111, 111, 108] rfl HV.out c).mono ?_); rintro e wn ⟨rfl, hs, hk⟩; have HV := hid hs; have HG := hid (HG.out.trans hk); clear hs hk)
      go_ret
      rw [HR.out]
      exact ⟨rfl, by decide, HV.out.weak (by omega), HG.out⟩
     ·have g := eq_false_of_ne_true c
      clear c
      go_wp2_with (go_at_call 35; go_must (refine (sign_no _ rp ⟨#[98, 111, 111, 108]⟩ [98, 111, 111, 108] rfl HV.out.e g).mono ?_); rintro e wn ⟨rfl, hk⟩; have HKK := hid (HKK.out.trans hk); clear hk)
      refine ⟨⟨2, rfl, by omega, fun j hj => ?_, HKK.out⟩, by simp only [intOf]; omega⟩
      rcases Nat.lt_or_ge j 1 with h | h
      ·exact HF.out j h
      ·obtain rfl : j = 1 := by omega
       exact g
    ·clear hk
     by_cases c : isSign [115, 116, 114, 105, 110, 103] l = true
     ·have f0 := HF.out 0 (by omega)
      have f1 := HF.out 1 (by omega)
      have hf : firstOf tyNames l = some kString := by simp [firstOf, tyNames, show isSign kInt l = false from f0, show isSign kBool l = false from f1, show isSign kString l = true from c]
      have hr : typF (f + 1) l = .ok kString l.tail := by rw [typF, hf]
      have HR := hid hr
      clear hr hf f0 f1
      go_wp2_with (go_at_call 35; go_must (refine (sign_yes _ rp ⟨#[115, 116, 114, 105, 110, 103]⟩ [115, 116, 114, 105, 110, 103] rfl HV.out c).mono ?_); rintro e wn ⟨rfl, hs, hk⟩; have HV := hid hs; have HG := hid (HG.out.trans hk); clear hs hk)
      go_ret
      rw [HR.out]
      exact ⟨rfl, by decide, HV.out.weak (by omega), HG.out⟩
     ·have g := eq_false_of_ne_true c
      clear c
      go_wp2_with (go_at_call 35; go_must (refine (sign_no _ rp ⟨#[115, 116, 114, 105, 110, 103]⟩ [115, 116, 114, 105, 110, 103] rfl HV.out.e g).mono ?_); rintro e wn ⟨rfl, hk⟩; have HKK := hid (HKK.out.trans hk); clear hk)
      refine ⟨⟨3, rfl, by omega, fun j hj => ?_, HKK.out⟩, by simp only [intOf]; omega⟩
      rcases Nat.lt_or_ge j 2 with h | h
      ·exact HF.out j h
      ·obtain rfl : j = 2 := by omega
       exact g
    ·clear hk
     by_cases c : isSign [97, 110, 121] l = true
     ·have f0 := HF.out 0 (by omega)
      have f1 := HF.out 1 (by omega)
      have f2 := HF.out 2 (by omega)
      have hf : firstOf tyNames l = some kAny := by simp [firstOf, tyNames, show isSign kInt l = false from f0, show isSign kBool l = false from f1, show isSign kString l = false from f2, show isSign kAny l = true from c]
      have hr : typF (f + 1) l = .ok kAny l.tail := by rw [typF, hf]
      have HR := hid hr
      clear hr hf f0 f1 f2
      go_wp2_with (go_at_call 35; go_must (refine (sign_yes _ rp ⟨#[97, 110, 121]⟩ [97, 110, 121] rfl HV.out c).mono ?_); rintro e wn ⟨rfl, hs, hk⟩; have HV := hid hs; have HG := hid (HG.out.trans hk); clear hs hk)
      go_ret
      rw [HR.out]
      exact ⟨rfl, by decide, HV.out.weak (by omega), HG.out⟩
     ·have g := eq_false_of_ne_true c
      clear c
      go_wp2_with (go_at_call 35; go_must (refine (sign_no _ rp ⟨#[97, 110, 121]⟩ [97, 110, 121] rfl HV.out.e g).mono ?_); rintro e wn ⟨rfl, hk⟩; have HKK := hid (HKK.out.trans hk); clear hk)
      refine ⟨⟨4, rfl, by omega, fun j hj => ?_, HKK.out⟩, by simp only [intOf]; omega⟩
      rcases Nat.lt_or_ge j 3 with h | h
      ·exact HF.out j h
      ·obtain rfl : j = 3 := by omega
       exact g
    ·have hf : firstOf tyNames l = none := by
      have g := HF.out
      simp [firstOf, tyNames, show isSign (kInt) l = false from g 0 (by omega), show isSign (kBool) l = false from g 1 (by omega), show isSign (kString) l = false from g 2 (by omega), show isSign (kAny) l = false from g 3 (by omega)]
     clear HF hk
     by_cases c : isSign [91] l = true
     ·by_cases d : isSign [93] l.tail = true
      rotate_left
      ·have d2 := eq_false_of_ne_true d
       have HR := hid (show typF (f + 1) l = .bad from by rw [typF, hf]; simp [c, d2, want, Pr.bind])
       clear hf
       go_upto_region 8 with (go_at_call 35; go_must (refine (sign_yes _ rp ⟨#[91]⟩ [91] rfl HV.out c).mono ?_); rintro e wn ⟨rfl, hs, hk⟩; have HV := hid hs; have HG := hid (HG.out.trans hk); clear hs hk)
       go_wp2_with (go_at_call 17; go_must (refine (want_no _ rp ⟨#[93]⟩ [93] rfl HV.out.e d2).mono ?_); rintro e wn ⟨rfl, hk⟩; unfold stopP; have HB := hid (HV0.out.below HG.out hk); clear hk)
       rw [HR.out]
       exact ⟨rfl, rfl, HB.out⟩
      by_cases e : isSign kInt l.tail.tail = true
      rotate_left
      ·have e2 := eq_false_of_ne_true e
       have HR := hid (show typF (f + 1) l = .bad from by rw [typF, hf]; simp [c, d, e2, want, Pr.bind])
       clear hf
       go_upto_region 8 with (go_at_call 35; go_must (refine (sign_yes _ rp ⟨#[91]⟩ [91] rfl HV.out c).mono ?_); rintro e wn ⟨rfl, hs, hk⟩; have HV := hid hs; have HG := hid (HG.out.trans hk); clear hs hk)
       go_upto_region 9 with (go_at_call 17; go_must (refine (want_yes _ rp ⟨#[93]⟩ [93] rfl HV.out d).mono ?_); rintro e wn ⟨rfl, hs, hk⟩; have HV := hid hs; have HG := hid (HG.out.trans hk); clear hs hk)
       go_wp2_with (go_at_call 17; go_must (refine (want_no _ rp ⟨#[105, 110, 116]⟩ [105, 110, 116] rfl HV.out.e e2).mono ?_); rintro e wn ⟨rfl, hk⟩; unfold stopP; have HB := hid (HV0.out.below HG.out hk); clear hk)
       rw [HR.out]
       exact ⟨rfl, rfl, HB.out⟩
      have HR := hid (show typF (f + 1) l = .ok kInts l.tail.tail.tail from by rw [typF, hf]; simp [c, d, e, want, Pr.bind])
      clear hf
      go_upto_region 8 with (go_at_call 35; go_must (refine (sign_yes _ rp ⟨#[91]⟩ [91] rfl HV.out c).mono ?_); rintro e wn ⟨rfl, hs, hk⟩; have HV := hid hs; have HG := hid (HG.out.trans hk); clear hs hk)
      go_upto_region 9 with (go_at_call 17; go_must (refine (want_yes _ rp ⟨#[93]⟩ [93] rfl HV.out d).mono ?_); rintro e wn ⟨rfl, hs, hk⟩; have HV := hid hs; have HG := hid (HG.out.trans hk); clear hs hk)
      go_wp2_with (go_at_call 17; go_must (refine (want_yes _ rp ⟨#[105, 110, 116]⟩ [105, 110, 116] rfl HV.out e).mono ?_); rintro e wn ⟨rfl, hs, hk⟩; have HV := hid hs; have HG := hid (HG.out.trans hk); clear hs hk)
      go_ret
      rw [HR.out]
      exact ⟨rfl, by decide, HV.out.weak (by omega), HG.out⟩
     have g1 := eq_false_of_ne_true c
     clear c
     by_cases c : isSign [42] l = true
     ·by_cases e : isSign kInt l.tail = true
      rotate_left
      ·have e2 := eq_false_of_ne_true e
       have HR := hid (show typF (f + 1) l = .bad from by rw [typF, hf]; simp [g1, c, e2, want, Pr.bind])
       clear hf
       go_upto_region 11 with (go_at_call 35; go_must (refine (sign_no _ rp ⟨#[91]⟩ [91] rfl HV.out.e g1).mono ?_); rintro e wn ⟨rfl, hk⟩; have HV := hid (HV.out.kp hk); have HG := hid (HG.out.trans (grown_kp hk _)); clear hk)
       go_upto_region 12 with (go_at_call 35; go_must (refine (sign_yes _ rp ⟨#[42]⟩ [42] rfl HV.out c).mono ?_); rintro e wn ⟨rfl, hs, hk⟩; have HV := hid hs; have HG := hid (HG.out.trans hk); clear hs hk)
       go_wp2_with (go_at_call 17; go_must (refine (want_no _ rp ⟨#[105, 110, 116]⟩ [105, 110, 116] rfl HV.out.e e2).mono ?_); rintro e wn ⟨rfl, hk⟩; unfold stopP; have HB := hid (HV0.out.below HG.out hk); clear hk)
       rw [HR.out]
       exact ⟨rfl, rfl, HB.out⟩
      have HR := hid (show typF (f + 1) l = .ok kPtr l.tail.tail from by rw [typF, hf]; simp [g1, c, e, want, Pr.bind])
      clear hf
      go_upto_region 11 with (go_at_call 35; go_must (refine (sign_no _ rp ⟨#[91]⟩ [91] rfl HV.out.e g1).mono ?_); rintro e wn ⟨rfl, hk⟩; have HV := hid (HV.out.kp hk); have HG := hid (HG.out.trans (grown_kp hk _)); clear hk)
      go_upto_region 12 with (go_at_call 35; go_must (refine (sign_yes _ rp ⟨#[42]⟩ [42] rfl HV.out c).mono ?_); rintro e wn ⟨rfl, hs, hk⟩; have HV := hid hs; have HG := hid (HG.out.trans hk); clear hs hk)
      go_wp2_with (go_at_call 17; go_must (refine (want_yes _ rp ⟨#[105, 110, 116]⟩ [105, 110, 116] rfl HV.out e).mono ?_); rintro e wn ⟨rfl, hs, hk⟩; have HV := hid hs; have HG := hid (HG.out.trans hk); clear hs hk)
      go_ret
      rw [HR.out]
      exact ⟨rfl, by decide, HV.out.weak (by omega), HG.out⟩
     have g2 := eq_false_of_ne_true c
     clear c
     by_cases c3 : isSign kFunc l = true
     rotate_left
     ·have e2 := eq_false_of_ne_true c3
      have HR := hid (show typF (f + 1) l = .bad from by rw [typF, hf]; simp [g1, g2, e2, want, Pr.bind])
      clear hf
      go_upto_region 11 with (go_at_call 35; go_must (refine (sign_no _ rp ⟨#[91]⟩ [91] rfl HV.out.e g1).mono ?_); rintro e wn ⟨rfl, hk⟩; have HV := hid (HV.out.kp hk); have HG := hid (HG.out.trans (grown_kp hk _)); clear hk)
      go_upto_region 14 with (go_at_call 35; go_must (refine (sign_no _ rp ⟨#[42]⟩ [42] rfl HV.out.e g2).mono ?_); rintro e wn ⟨rfl, hk⟩; have HV := hid (HV.out.kp hk); have HG := hid (HG.out.trans (grown_kp hk _)); clear hk)
      go_wp2_with (go_at_call 17; go_must (refine (want_no _ rp ⟨#[102, 117, 110, 99]⟩ [102, 117, 110, 99] rfl HV.out.e e2).mono ?_); rintro e wn ⟨rfl, hk⟩; unfold stopP; have HB := hid (HV0.out.below HG.out hk); clear hk)
      rw [HR.out]
      exact ⟨rfl, rfl, HB.out⟩
     by_cases c4 : isSign [40] l.tail = true
     rotate_left
     ·have e2 := eq_false_of_ne_true c4
      have HR := hid (show typF (f + 1) l = .bad from by rw [typF, hf]; simp [g1, g2, c3, e2, want, Pr.bind])
      clear hf
      go_upto_region 11 with (go_at_call 35; go_must (refine (sign_no _ rp ⟨#[91]⟩ [91] rfl HV.out.e g1).mono ?_); rintro e wn ⟨rfl, hk⟩; have HV := hid (HV.out.kp hk); have HG := hid (HG.out.trans (grown_kp hk _)); clear hk)
      go_upto_region 14 with (go_at_call 35; go_must (refine (sign_no _ rp ⟨#[42]⟩ [42] rfl HV.out.e g2).mono ?_); rintro e wn ⟨rfl, hk⟩; have HV := hid (HV.out.kp hk); have HG := hid (HG.out.trans (grown_kp hk _)); clear hk)
      go_upto_region 15 with (go_at_call 17; go_must (refine (want_yes _ rp ⟨#[102, 117, 110, 99]⟩ [102, 117, 110, 99] rfl HV.out c3).mono ?_); rintro e wn ⟨rfl, hs, hk⟩; have HV := hid hs; have HG := hid (HG.out.trans hk); clear hs hk)
      go_wp2_with (go_at_call 17; go_must (refine (want_no _ rp ⟨#[40]⟩ [40] rfl HV.out.e e2).mono ?_); rintro e wn ⟨rfl, hk⟩; unfold stopP; have HB := hid (HV0.out.below HG.out hk); clear hk)
      rw [HR.out]
      exact ⟨rfl, rfl, HB.out⟩
     have e1 : typF (f + 1) l = (typsF f [] l.tail.tail).bind fun ps r => (if typed r then typF f r else .ok [] r).bind fun q r => if (Ty.funcM (ps.map sB) (sB q)).2 = 0 then .ok (Ty.funcM (ps.map sB) (sB q)).1 r else .bad := by rw [typF, hf]; simp [g1, g2, c3, c4, want, Pr.bind]
     have HE := hid e1
     generalize hR : typsF f [] l.tail.tail = R at e1
     have HR := hid hR
     have HNR := hid (show R ≠ .out by intro e; rw [e] at e1; exact HNE.out e1)
     clear hf e1 hR
     go_upto_region 11 with (go_at_call 35; go_must (refine (sign_no _ rp ⟨#[91]⟩ [91] rfl HV.out.e g1).mono ?_); rintro e wn ⟨rfl, hk⟩; have HV := hid (HV.out.kp hk); have HG := hid (HG.out.trans (grown_kp hk _)); clear hk)
     go_upto_region 14 with (go_at_call 35; go_must (refine (sign_no _ rp ⟨#[42]⟩ [42] rfl HV.out.e g2).mono ?_); rintro e wn ⟨rfl, hk⟩; have HV := hid (HV.out.kp hk); have HG := hid (HG.out.trans (grown_kp hk _)); clear hk)
     go_upto_region 15 with (go_at_call 17; go_must (refine (want_yes _ rp ⟨#[102, 117, 110, 99]⟩ [102, 117, 110, 99] rfl HV.out c3).mono ?_); rintro e wn ⟨rfl, hs, hk⟩; have HV := hid hs; have HG := hid (HG.out.trans hk); clear hs hk)
     go_upto_region 17 with (go_at_call 17; go_must (refine (want_yes _ rp ⟨#[40]⟩ [40] rfl HV.out c4).mono ?_); rintro e wn ⟨rfl, hs, hk⟩; have HV := hid hs; have HG := hid (HG.out.trans hk); clear hs hk)
     have HWZ := hid HV0.out.lt
     clear HKK
     go_loopw [5] (fun kv wr => ∃ (g : Nat) (us : List Bs) (l' : List Tk) (A : Option Addr) (c : Nat), g ≤ f ∧ typsF g us l' = R ∧ kv = .slice A us.length c ∧ OwnS wr w.heap.size (.slice A us.length c) (us.map sB) ∧ (∀ x ∈ us, (sB x).size ≤ 1000) ∧ PrsV wr rp L l' qs s lv tv ∧ w.grownBy wr (some rp) ∧ us.length + l'.length ≤ 2000) (fun _ wr => L.length - atOf wr rp)
     case atStart => exact ⟨f, [], l.tail.tail, none, 0, Nat.le_refl _, HR.out, rfl, OwnS.nil _ _, fun x hx => absurd hx (by simp), HV.out.weak (by omega), HG.out, by have := HV.out.short; simpa using this⟩
     case round =>
      clear HV HG
      obtain ⟨g, us, l', A, c, hg, hr, rfl, ho, hsz, hv, hgr, hul⟩ := hrel
      have HV := hid hv
      have HG := hid hgr
      have HO := hid ho
      have HSZ := hid hsz
      have HAT := hid hv.at_
      clear hv hgr ho hsz c3 c4 g1 g2
      cases g with
      | zero => exact absurd (by rw [← hr, typsF]) HNR.out
      | succ g =>
       rw [typsF] at hr
       by_cases d : isSign [41] l' = true
       ·rw [if_pos d] at hr
        have HE2 := hid (show typF (f + 1) l = (if typed l'.tail then typF f l'.tail else .ok [] l'.tail).bind fun q r => if (Ty.funcM (us.map sB) (sB q)).2 = 0 then .ok (Ty.funcM (us.map sB) (sB q)).1 r else .bad by rw [HE.out, HR.out, ← hr]; simp [d, Pr.bind])
        clear hr
        have HUL := hid (show us.length ≤ 2000 by omega)
        by_cases ty : typed l'.tail = true
        rotate_left
        ·have tf := eq_false_of_ne_true ty
         clear ty
         have HQZ := hid (show (sB []).size ≤ 1000 by decide)
         by_cases fz : (Ty.funcM (us.map sB) (sB [])).2 = 0
         ·have HT := hid (show typF (f + 1) l = .ok (Ty.funcM (us.map sB) (sB [])).1 l'.tail by rw [HE2.out]; simp [tf, fz, Pr.bind])
          go_upto_region 22 with (go_at_call 35; go_must (refine (sign_yes _ rp ⟨#[41]⟩ [41] rfl HV.out d).mono ?_); rintro e wn ⟨rfl, hs, hk⟩; have HO := hid (OwnS.gr HO.out hk HWZ.out); have HV := hid hs; have HG := hid (HG.out.trans hk); clear hs hk)
          go_upto_region 24 with (go_at_call 37; go_must (refine (typed_v HV.out).mono ?_); rintro e wn ⟨rfl, hk⟩; rw [tf]; have HO := hid (HO.out.kp hk); have HV := hid (HV.out.kp hk); have HG := hid (HG.out.trans (grown_kp hk _)); clear hk)
          go_upto_region 25 with (go_at_call 48; go_must (refine (func_v HO.out HSZ.out HUL.out HQZ.out).mono ?_); rintro e wn ⟨rfl, hk⟩; have HV := hid (HV.out.kp hk); have HG := hid (HG.out.trans (grown_kp hk _)); clear hk)
          have HLL := hid (func_len fz)
          generalize Ty.funcM (us.map sB) (sB []) = FM at fz HT HLL ⊢
          obtain ⟨f1, f2⟩ := FM
          simp only at fz
          subst fz
          go_wp2_with fail
          go_ret
          rw [HT.out]
          exact ⟨rfl, HLL.out, HV.out.weak (by omega), HG.out⟩
         have HT := hid (show typF (f + 1) l = .bad by rw [HE2.out]; simp [tf, fz, Pr.bind])
         go_upto_region 22 with (go_at_call 35; go_must (refine (sign_yes _ rp ⟨#[41]⟩ [41] rfl HV.out d).mono ?_); rintro e wn ⟨rfl, hs, hk⟩; have HO := hid (OwnS.gr HO.out hk HWZ.out); have HV := hid hs; have HG := hid (HG.out.trans hk); clear hs hk)
         go_upto_region 24 with (go_at_call 37; go_must (refine (typed_v HV.out).mono ?_); rintro e wn ⟨rfl, hk⟩; rw [tf]; have HO := hid (HO.out.kp hk); have HV := hid (HV.out.kp hk); have HG := hid (HG.out.trans (grown_kp hk _)); clear hk)
         go_upto_region 25 with (go_at_call 48; go_must (refine (func_v HO.out HSZ.out HUL.out HQZ.out).mono ?_); rintro e wn ⟨rfl, hk⟩; have HV := hid (HV.out.kp hk); have HG := hid (HG.out.trans (grown_kp hk _)); clear hk)
         generalize Ty.funcM (us.map sB) (sB []) = FM at fz ⊢
         obtain ⟨f1, f2⟩ := FM
         simp only at fz ⊢
         have z1 : (f2 != 0) = true := by rw [bne_iff_ne]; exact fz
         have z2 : (f2 == 0) = false := by rw [beq_eq_false_iff_ne]; exact fz
         go_wp2_with (go_at_call 20; go_must (refine (fail_any _ _).mono ?_); rintro e wn ⟨rfl, hk⟩; unfold stopP; have HB := hid (HV0.out.below HG.out hk); clear hk)
         rw [HT.out]
         exact ⟨rfl, rfl, HB.out⟩
        cases hq : typF f l'.tail with
        | out => exact absurd (by rw [HE2.out]; simp [ty, hq, Pr.bind]) HNE.out
        | bad =>
         have hnq : typF f l'.tail ≠ .out := by rw [hq]; intro e; cases e
         have HT := hid (show typF (f + 1) l = .bad by rw [HE2.out]; simp [ty, hq, Pr.bind])
         go_upto_region 22 with (go_at_call 35; go_must (refine (sign_yes _ rp ⟨#[41]⟩ [41] rfl HV.out d).mono ?_); rintro e wn ⟨rfl, hs, hk⟩; have HO := hid (OwnS.gr HO.out hk HWZ.out); have HV := hid hs; have HG := hid (HG.out.trans hk); clear hs hk)
         go_wp2_with first | (go_at_call 37; go_must (refine (typed_v HV.out).mono ?_); rintro e wn ⟨rfl, hk⟩; rw [ty]; have HO := hid (HO.out.kp hk); have HV := hid (HV.out.kp hk); have HG := hid (HG.out.trans (grown_kp hk _)); clear hk) | (go_at_call 36; go_must (refine ((H f (Nat.le_refl _) HV.out hnq).mono fun _ _ x => ResV.bad x hq).mono ?_); rintro e wn ⟨rfl, hb⟩; unfold stopP; have HB := hid (HV0.out.below2 HG.out hb); clear hb)
         rw [HT.out]
         exact ⟨rfl, rfl, HB.out⟩
        | ok q r2 =>
         have hnq : typF f l'.tail ≠ .out := by rw [hq]; intro e; cases e
         by_cases fz : (Ty.funcM (us.map sB) (sB q)).2 = 0
         ·have HT := hid (show typF (f + 1) l = .ok (Ty.funcM (us.map sB) (sB q)).1 r2 by rw [HE2.out]; simp [ty, hq, fz, Pr.bind])
          go_upto_region 22 with (go_at_call 35; go_must (refine (sign_yes _ rp ⟨#[41]⟩ [41] rfl HV.out d).mono ?_); rintro e wn ⟨rfl, hs, hk⟩; have HO := hid (OwnS.gr HO.out hk HWZ.out); have HV := hid hs; have HG := hid (HG.out.trans hk); clear hs hk)
          go_upto_region 24 with first | (go_at_call 37; go_must (refine (typed_v HV.out).mono ?_); rintro e wn ⟨rfl, hk⟩; rw [ty]; have HO := hid (HO.out.kp hk); have HV := hid (HV.out.kp hk); have HG := hid (HG.out.trans (grown_kp hk _)); clear hk) | (go_at_call 36; go_must (refine ((H f (Nat.le_refl _) HV.out hnq).mono fun _ _ x => ResV.ok x hq).mono ?_); rintro e wn ⟨rfl, hz, hs, hk⟩; have HQZ := hid hz; have HO := hid (OwnS.gr HO.out hk HWZ.out); clear hz; have HV := hid hs; have HG := hid (HG.out.trans hk); clear hs hk)
          go_upto_region 25 with (go_at_call 48; go_must (refine (func_v HO.out HSZ.out HUL.out HQZ.out).mono ?_); rintro e wn ⟨rfl, hk⟩; have HV := hid (HV.out.kp hk); have HG := hid (HG.out.trans (grown_kp hk _)); clear hk)
          have HLL := hid (func_len fz)
          generalize Ty.funcM (us.map sB) (sB q) = FM at fz HT HLL ⊢
          obtain ⟨f1, f2⟩ := FM
          simp only at fz
          subst fz
          go_wp2_with fail
          go_ret
          rw [HT.out]
          exact ⟨rfl, HLL.out, HV.out.weak (by omega), HG.out⟩
         have HT := hid (show typF (f + 1) l = .bad by rw [HE2.out]; simp [ty, hq, fz, Pr.bind])
         go_upto_region 22 with (go_at_call 35; go_must (refine (sign_yes _ rp ⟨#[41]⟩ [41] rfl HV.out d).mono ?_); rintro e wn ⟨rfl, hs, hk⟩; have HO := hid (OwnS.gr HO.out hk HWZ.out); have HV := hid hs; have HG := hid (HG.out.trans hk); clear hs hk)
         go_upto_region 24 with first | (go_at_call 37; go_must (refine (typed_v HV.out).mono ?_); rintro e wn ⟨rfl, hk⟩; rw [ty]; have HO := hid (HO.out.kp hk); have HV := hid (HV.out.kp hk); have HG := hid (HG.out.trans (grown_kp hk _)); clear hk) | (go_at_call 36; go_must (refine ((H f (Nat.le_refl _) HV.out hnq).mono fun _ _ x => ResV.ok x hq).mono ?_); rintro e wn ⟨rfl, hz, hs, hk⟩; have HQZ := hid hz; have HO := hid (OwnS.gr HO.out hk HWZ.out); clear hz; have HV := hid hs; have HG := hid (HG.out.trans hk); clear hs hk)
         go_upto_region 25 with (go_at_call 48; go_must (refine (func_v HO.out HSZ.out HUL.out HQZ.out).mono ?_); rintro e wn ⟨rfl, hk⟩; have HV := hid (HV.out.kp hk); have HG := hid (HG.out.trans (grown_kp hk _)); clear hk)
         generalize Ty.funcM (us.map sB) (sB q) = FM at fz ⊢
         obtain ⟨f1, f2⟩ := FM
         simp only at fz ⊢
         have z1 : (f2 != 0) = true := by rw [bne_iff_ne]; exact fz
         have z2 : (f2 == 0) = false := by rw [beq_eq_false_iff_ne]; exact fz
         go_wp2_with (go_at_call 20; go_must (refine (fail_any _ _).mono ?_); rintro e wn ⟨rfl, hk⟩; unfold stopP; have HB := hid (HV0.out.below HG.out hk); clear hk)
         rw [HT.out]
         exact ⟨rfl, rfl, HB.out⟩
       have e := eq_false_of_ne_true d
       rw [if_neg d] at hr
       clear d
       by_cases un : us = []
       ·rw [if_pos un] at hr
        simp only [Pr.bind] at hr
        have u1 : ¬ (0 : Int) < (us.length : Int) := by rw [un]; simp
        clear un
        cases hu : typF g l' with
        | out => exact absurd (by rw [← hr, hu] <;> rfl) HNR.out
        | bad =>
         have hnu : typF g l' ≠ .out := by rw [hu]; intro e; cases e
         rw [hu] at hr
         have HT := hid (show typF (f + 1) l = .bad by rw [HE.out, HR.out, ← hr]; rfl)
         clear hr
         go_upto_region 20 with (go_at_call 35; go_must (refine (sign_no _ rp ⟨#[41]⟩ [41] rfl HV.out.e e).mono ?_); rintro e wn ⟨rfl, hk⟩; have HO := hid (HO.out.kp hk); have HV := hid (HV.out.kp hk); have HG := hid (HG.out.trans (grown_kp hk _)); clear hk)
         go_wp2_with (go_at_call 36; go_must (refine ((H g (by omega) HV.out hnu).mono fun _ _ x => ResV.bad x hu).mono ?_); rintro e wn ⟨rfl, hb⟩; unfold stopP; have HB := hid (HV0.out.below2 HG.out hb); clear hb)
         rw [HT.out]
         exact ⟨rfl, rfl, HB.out⟩
        | ok t r2 =>
         have hnu : typF g l' ≠ .out := by rw [hu]; intro e; cases e
         rw [hu] at hr
         simp only [Pr.bind] at hr
         have HR2 := hid hr
         have hlt := typ_lt hu
         clear hr
         go_upto_region 20 with (go_at_call 35; go_must (refine (sign_no _ rp ⟨#[41]⟩ [41] rfl HV.out.e e).mono ?_); rintro e wn ⟨rfl, hk⟩; have HO := hid (HO.out.kp hk); have HV := hid (HV.out.kp hk); have HG := hid (HG.out.trans (grown_kp hk _)); clear hk)
         go_wp2_with first | (go_at_call 36; go_must (refine ((H g (by omega) HV.out hnu).mono fun _ _ x => ResV.ok x hu).mono ?_); rintro e wn ⟨rfl, hz, hs, hk⟩; have HQZ := hid hz; have HO := hid (OwnS.gr HO.out hk HWZ.out); clear hz; have HV := hid hs; have HG := hid (HG.out.trans hk); clear hs hk) | (at_builtin; go_must (refine app_lit elStr rfl (.tmp 42) (.tmp 45) rfl HO.out rfl #[.string (sB t)] 9 1 1 rfl rfl (by intro u hu; simp at hu; subst hu; rfl) (by rw [List.length_map]; unfold maxLen; omega) (by rw [List.length_map]; omega) HG.out.size ?_); intro v1 wn g1 g2 g3 g4 g5)
         obtain ⟨A1, c1, rfl⟩ := own_form g1
         rw [List.length_map] at g1
         have HV2 := hid (HV.out.grownS HO.out HWZ.out g2)
         refine ⟨⟨g, us ++ [t], r2, A1, c1, by omega, HR2.out, by simp, ?_, fun x hx => ?_, HV2.out.weak (by omega), grown_own HG.out g2 (fun k hk => (World.ownsRow.lt HO.out k hk).1), by rw [List.length_append]; simp; omega⟩, by rw [HAT.out, HV2.out.at_]; omega⟩
         ·unfold OwnS; rw [List.length_append, List.length_map, List.map_append, List.map_append]; simp only [List.length_cons, List.length_nil, List.map_cons, List.map_nil]; simpa using g1
         ·rcases List.mem_append.1 hx with hx | hx
          ·exact HSZ.out x hx
          ·rw [List.mem_singleton] at hx; subst hx; exact HQZ.out
       rw [if_neg un] at hr
       have u1 : (0 : Int) < (us.length : Int) := by have := List.length_pos_iff.2 un; omega
       by_cases d : isSign [44] l' = true
       rotate_left
       ·have d2 := eq_false_of_ne_true d
        have HT := hid (show typF (f + 1) l = .bad by rw [HE.out, HR.out, ← hr]; simp [want, d2, Pr.bind])
        clear hr d
        go_upto_region 19 with (go_at_call 35; go_must (refine (sign_no _ rp ⟨#[41]⟩ [41] rfl HV.out.e e).mono ?_); rintro e wn ⟨rfl, hk⟩; have HO := hid (HO.out.kp hk); have HV := hid (HV.out.kp hk); have HG := hid (HG.out.trans (grown_kp hk _)); clear hk)
        go_wp2_with (go_at_call 17; go_must (refine (want_no _ rp ⟨#[44]⟩ [44] rfl HV.out.e d2).mono ?_); rintro e wn ⟨rfl, hk⟩; unfold stopP; have HB := hid (HV0.out.below HG.out hk); clear hk)
        rw [HT.out]
        exact ⟨rfl, rfl, HB.out⟩
       have hlt0 := sign_pos d
       rw [want, if_pos d] at hr
       simp only [Pr.bind] at hr
       cases hu : typF g l'.tail with
       | out => exact absurd (by rw [← hr, hu] <;> rfl) HNR.out
       | bad =>
        have hnu : typF g l'.tail ≠ .out := by rw [hu]; intro e; cases e
        rw [hu] at hr
        have HT := hid (show typF (f + 1) l = .bad by rw [HE.out, HR.out, ← hr]; rfl)
        clear hr
        go_upto_region 19 with (go_at_call 35; go_must (refine (sign_no _ rp ⟨#[41]⟩ [41] rfl HV.out.e e).mono ?_); rintro e wn ⟨rfl, hk⟩; have HO := hid (HO.out.kp hk); have HV := hid (HV.out.kp hk); have HG := hid (HG.out.trans (grown_kp hk _)); clear hk)
        go_upto_region 20 with (go_at_call 17; go_must (refine (want_yes _ rp ⟨#[44]⟩ [44] rfl HV.out d).mono ?_); rintro e wn ⟨rfl, hs, hk⟩; have HO := hid (OwnS.gr HO.out hk HWZ.out); have HV := hid hs; have HG := hid (HG.out.trans hk); clear hs hk)
        go_wp2_with (go_at_call 36; go_must (refine ((H g (by omega) HV.out hnu).mono fun _ _ x => ResV.bad x hu).mono ?_); rintro e wn ⟨rfl, hb⟩; unfold stopP; have HB := hid (HV0.out.below2 HG.out hb); clear hb)
        rw [HT.out]
        exact ⟨rfl, rfl, HB.out⟩
       | ok t r2 =>
        have hnu : typF g l'.tail ≠ .out := by rw [hu]; intro e; cases e
        rw [hu] at hr
        simp only [Pr.bind] at hr
        have HR2 := hid hr
        have hlt := typ_lt hu
        clear hr
        go_upto_region 19 with (go_at_call 35; go_must (refine (sign_no _ rp ⟨#[41]⟩ [41] rfl HV.out.e e).mono ?_); rintro e wn ⟨rfl, hk⟩; have HO := hid (HO.out.kp hk); have HV := hid (HV.out.kp hk); have HG := hid (HG.out.trans (grown_kp hk _)); clear hk)
        go_upto_region 20 with (go_at_call 17; go_must (refine (want_yes _ rp ⟨#[44]⟩ [44] rfl HV.out d).mono ?_); rintro e wn ⟨rfl, hs, hk⟩; have HO := hid (OwnS.gr HO.out hk HWZ.out); have HV := hid hs; have HG := hid (HG.out.trans hk); clear hs hk)
        go_wp2_with first | (go_at_call 36; go_must (refine ((H g (by omega) HV.out hnu).mono fun _ _ x => ResV.ok x hu).mono ?_); rintro e wn ⟨rfl, hz, hs, hk⟩; have HQZ := hid hz; have HO := hid (OwnS.gr HO.out hk HWZ.out); clear hz; have HV := hid hs; have HG := hid (HG.out.trans hk); clear hs hk) | (at_builtin; go_must (refine app_lit elStr rfl (.tmp 42) (.tmp 45) rfl HO.out rfl #[.string (sB t)] 9 1 1 rfl rfl (by intro u hu; simp at hu; subst hu; rfl) (by rw [List.length_map]; unfold maxLen; omega) (by rw [List.length_map]; omega) HG.out.size ?_); intro v1 wn g1 g2 g3 g4 g5)
        obtain ⟨A1, c1, rfl⟩ := own_form g1
        rw [List.length_map] at g1
        have HV2 := hid (HV.out.grownS HO.out HWZ.out g2)
        refine ⟨⟨g, us ++ [t], r2, A1, c1, by omega, HR2.out, by simp, ?_, fun x hx => ?_, HV2.out.weak (by omega), grown_own HG.out g2 (fun k hk => (World.ownsRow.lt HO.out k hk).1), by rw [List.length_append]; simp; omega⟩, by rw [HAT.out, HV2.out.at_]; omega⟩
        ·unfold OwnS; rw [List.length_append, List.length_map, List.map_append, List.map_append]; simp only [List.length_cons, List.length_nil, List.map_cons, List.map_nil]; simpa using g1
        ·rcases List.mem_append.1 hx with hx | hx
         ·exact HSZ.out x hx
         ·rw [List.mem_singleton] at hx; subst hx; exact HQZ.out
theorem typ_ok (f : Nat) : CY 36 (typF f) := CV.y (typ_v f)
end Go.Proofs.Ytcjgagmcnmmfoaa.Pa

