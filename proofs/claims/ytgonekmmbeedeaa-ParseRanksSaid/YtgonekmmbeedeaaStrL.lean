/-
  Rows of strings that a call owns. No condition.
-/
import Derived.Test.YtgonekmmbeedeaaMem
namespace Go.Proofs.Ytgonekmmbeedeaa
open Go.RowKit

def OwnS (w : World) (base : Nat) (v : Value) (ss : List ByteArray) : Prop := w.ownsRow base 9 1 v ss.length (ss.map Value.string)
theorem elStr : El Try.prog 23 9 (.string ⟨#[]⟩) 1 16 := El.mk_ Try.underlying23 (by kernel_rfl) rfl (by omega)
theorem ret_str {a b : ByteArray} (h : a = b) : Ending.returned (.string a) = .returned (.string b) := by rw [h]
theorem OwnS.nil (w : World) (base : Nat) : OwnS w base (.slice none 0 0) [] := World.ownsRow_nil _ _ _ _
theorem oneStr (ss : List ByteArray) : ∀ u ∈ ss.map Value.string, u.oneCell' = true := by
  intro u hu; rw [List.mem_map] at hu; obtain ⟨b, _, rfl⟩ := hu; rfl
theorem ownsRow_kp {w w' : World} {base : Nat} {e : TypeId} {size n : Nat} {v : Value} {xs : List Value} (h : w.ownsRow base e size v n xs) (hk : Kp w w') : w'.ownsRow base e size v n xs := by
  refine World.ownsRow.kept h (row := none) ⟨hk.os, hk.tape, hk.output, hk.size, fun k hk1 _ => hk.block k hk1⟩ ?_
  rcases h.2 with ⟨rfl, _⟩ | ⟨g, cap, cur, rfl, _⟩
  · exact .inl rfl
  · exact .inr (by simp [Value.ownBlock])
theorem OwnS.kp {w w' : World} {base : Nat} {v : Value} {ss : List ByteArray} (h : OwnS w base v ss) (hk : Kp w w') : OwnS w' base v ss := ownsRow_kp h hk
theorem OwnS.snoc {w : World} {base : Nat} {v : Value} {ss : List ByteArray} {s : ByteArray} {cs : Array Value} (hcs : cs = #[.string s]) (h : w.ownsRow base 9 1 v (ss.length + 1) (ss.map Value.string ++ cs.toList)) : OwnS w base v (ss ++ [s]) := by
  subst hcs; unfold OwnS; rw [List.length_append, List.map_append]; exact h
end Go.Proofs.Ytgonekmmbeedeaa
