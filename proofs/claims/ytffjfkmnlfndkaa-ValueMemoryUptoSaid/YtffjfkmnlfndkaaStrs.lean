/-
  Rows of strings that a call owns; strings.Join of them. No condition.
-/
import Derived.Test.YtffjfkmnlfndkaaMem
import Derived.Test.YtffjfkmnlfndkaaShelf
namespace Go.Proofs.Ytffjfkmnlfndkaa
open Go.RowKit

def OwnS (w : World) (base : Nat) (v : Value) (ss : List ByteArray) : Prop := w.ownsRow base 9 1 v ss.length (ss.map Value.string)
theorem elStr : El Try.prog 88 9 (.string ⟨#[]⟩) 1 16 := El.mk_ Try.underlying88 (by kernel_rfl) rfl (by omega)
theorem ret_str {a b : ByteArray} (h : a = b) : Ending.returned (.string a) = .returned (.string b) := by rw [h]
theorem OwnS.nil (w : World) (base : Nat) : OwnS w base (.slice none 0 0) [] := World.ownsRow_nil _ _ _ _
theorem oneStr (ss : List ByteArray) : ∀ u ∈ ss.map Value.string, u.oneCell' = true := by
  intro u hu; rw [List.mem_map] at hu; obtain ⟨b, _, rfl⟩ := hu; rfl
theorem ownsRow_kp {w w' : World} {base : Nat} {e : TypeId} {size n : Nat} {v : Value} {xs : List Value} (h : w.ownsRow base e size v n xs) (hk : Kp w w') : w'.ownsRow base e size v n xs := by
  refine World.ownsRow.kept h (row := none) ⟨hk.os, hk.tape, hk.output, hk.size, fun k hk1 _ => hk.block k hk1⟩ ?_
  rcases h.2 with ⟨rfl, _⟩ | ⟨g, cap, cur, rfl, _⟩
  · exact .inl rfl
  · exact .inr (by simp [Value.ownBlock])
theorem OwnS.kp {w w' : World} {base : Nat} {v : Value} {ss : List ByteArray} (h : OwnS w base v ss) (hk : Kp w w') : OwnS w' base v ss := ownsRow_kp h hk
theorem OwnS.snoc {w : World} {base : Nat} {v : Value} {ss : List ByteArray} {s : ByteArray} {cs : Array Value} (hcs : cs = #[.string s]) (h : w.ownsRow base 9 1 v (ss.length + 1) (ss.map Value.string ++ cs.toList)) : OwnS w base v (ss ++ [s]) := by
  subst hcs; unfold OwnS; rw [List.length_append, List.map_append]; exact h
theorem join_any (v : Value) (ss : List ByteArray) (sep : ByteArray) (w : World) (base : Nat) (h : OwnS w base v ss) (hN : ss.length ≤ 140737488355328)
    (hlen : (Lib.join (ss.map (·.data.toList)) sep.data.toList).length ≤ 140737488355328) :
    Calls Try.prog 50 #[v, .string sep] w fun e w' => e = .returned (.string ⟨(Lib.join (ss.map (·.data.toList)) sep.data.toList).toArray⟩) ∧ Kp w w' := by
  rcases h.2 with ⟨rfl, h0⟩ | ⟨g, cap, cur, rfl, hg0, hg, hnc, _, hsz, htk⟩
  · obtain rfl : ss = [] := List.eq_nil_of_length_eq_zero h0
    exact (Try.strings_Join_none none 0 sep w).mono fun e w' ⟨h1, h2⟩ => ⟨h1, h2 ▸ Below.refl _ _⟩
  · have hlt := (Array.getElem?_eq_some_iff.1 hg).1
    refine Try.strings_Join g 0 cap ss sep w (fun j x hx => ?_) hlt hN hnc hlen
    have hj : j < ss.length := by
      rcases Nat.lt_or_ge j ss.length with h | h
      · exact h
      · rw [List.getElem?_eq_none h] at hx; cases hx
    have hc : w.cell? ⟨g, 0 + j, none⟩ = cur[j]? := by simp [World.cell?, hg]
    rw [hc]
    have h3 : cur.toList[j]? = (ss.map Value.string)[j]? := by rw [← htk]; rw [List.getElem?_take]; rw [if_pos (by omega)]
    rw [Array.getElem?_toList] at h3
    rw [h3]; simp [hx]
theorem join_is {J : List UInt8} (v : Value) (ss : List ByteArray) (sep : ByteArray) (w : World) (base : Nat) (h : OwnS w base v ss) (hN : ss.length ≤ 140737488355328) (hJ : Lib.join (ss.map (·.data.toList)) sep.data.toList = J)
    (hlen : J.length ≤ 140737488355328) : Calls Try.prog 50 #[v, .string sep] w fun e w' => e = .returned (.string ⟨J.toArray⟩) ∧ Kp w w' := by
  subst hJ; exact join_any v ss sep w base h hN hlen
theorem join_len (sep : List UInt8) (B : Nat) : ∀ (xs : List (List UInt8)), (∀ x ∈ xs, x.length ≤ B) → (Lib.join xs sep).length ≤ xs.length * (B + sep.length)
  | [], _ => by simp [Lib.join_nil]
  | x :: r, h => by
    have h2 : ∀ r : List (List UInt8), (∀ x ∈ r, x.length ≤ B) → (Lib.joinTail sep r).length ≤ r.length * (B + sep.length) := by
      intro r
      induction r with
      | nil => intro _; simp [Lib.joinTail]
      | cons y r ih =>
        intro h
        have := ih (fun x hx => h x (List.mem_cons_of_mem _ hx))
        have hy := h y (List.mem_cons_self ..)
        simp only [Lib.joinTail, List.map_cons, List.flatten_cons, List.length_append, List.length_cons, Nat.add_mul] at this ⊢
        omega
    rw [Lib.join_cons, List.length_append, List.length_cons, Nat.add_mul]
    have h3 := h2 r (fun x hx => h x (List.mem_cons_of_mem _ hx))
    have hx := h x (List.mem_cons_self ..)
    omega
end Go.Proofs.Ytffjfkmnlfndkaa
