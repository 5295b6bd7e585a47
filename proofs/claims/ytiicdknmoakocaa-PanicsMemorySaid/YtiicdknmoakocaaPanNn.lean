/-
  Package panics, the plain model: activations' numbers are not below 0. No condition.
-/
import Derived.Test.YtiicdknmoakocaaPanN
namespace Go.Proofs.Ytiicdknmoakocaa
open Go.RowKit
set_option linter.unusedVariables false

def NN (p : PlM) : Prop := (∀ f ∈ p.fr, 0 ≤ f.id) ∧ 0 ≤ p.next
theorem NN.over {p : PlM} (h : NN p) (a b : Int) : NN (p.over a b) := h
theorem NN.tail {p : PlM} {f : FrameM} {r : List FrameM} (h : NN p) (hf : p.fr = f :: r) : ∀ g ∈ r, 0 ≤ g.id := fun g hg => h.1 g (by rw [hf]; exact List.mem_cons_of_mem _ hg)
theorem NN.head {p : PlM} {f : FrameM} {r : List FrameM} (h : NN p) (hf : p.fr = f :: r) : 0 ≤ f.id := h.1 f (by rw [hf]; exact List.mem_cons_self ..)
theorem nn_cons {f : FrameM} {r : List FrameM} (h : 0 ≤ f.id) (hr : ∀ g ∈ r, 0 ≤ g.id) : ∀ g ∈ f :: r, 0 ≤ g.id := fun g hg => by
  rcases List.mem_cons.1 hg with rfl | hg
  · exact h
  · exact hr g hg
theorem start_nn {p : PlM} {f : FrameM} {r : List FrameM} (h : NN p) (hf : p.fr = f :: r) : NN (startM p f r) := by
  unfold startM
  split
  · exact h
  · exact ⟨nn_cons h.2 (nn_cons (f := { f with defers := f.defers.dropLast }) (show 0 ≤ f.id from h.head hf) (h.tail hf)), by have := h.2; show 0 ≤ p.next + 1; omega⟩
theorem settleN_nn : ∀ (n : Nat) (p : PlM), NN p → NN (settleN n p)
  | 0, p, h => h
  | n + 1, p, h => by
    unfold settleN
    split
    · exact h
    · rename_i f r hf
      split
      · exact start_nn h hf
      · split
        · split
          · exact ⟨h.tail hf, h.2⟩
          · rename_i g s
            split
            · exact settleN_nn n _ ⟨nn_cons (f := { g with phase := 1 }) (h.tail hf g (List.mem_cons_self ..)) (fun x hx => h.tail hf x (List.mem_cons_of_mem _ hx)), h.2⟩
            · split
              · exact ⟨h.tail hf, h.2⟩
              · exact settleN_nn n _ ⟨h.tail hf, h.2⟩
        · split
          · exact ⟨h.tail hf, h.2⟩
          · rename_i g s
            exact settleN_nn n _ ⟨nn_cons (f := { g with phase := 2 }) (h.tail hf g (List.mem_cons_self ..)) (fun x hx => h.tail hf x (List.mem_cons_of_mem _ hx)), h.2⟩
theorem phase_nn {p : PlM} (h : NN p) (ph : Int) : NN (phase_ p ph) := by
  unfold phase_
  split
  · exact h
  · rename_i f r hf
    exact ⟨nn_cons (f := { f with phase := ph }) (show 0 ≤ f.id from h.head hf) (h.tail hf), h.2⟩
theorem event_nn {p : PlM} (h : NN p) (e : EventM) : NN (eventM p e) := by
  unfold eventM
  split
  · split
    · exact h
    · exact ⟨nn_cons h.2 h.1, by have := h.2; show 0 ≤ p.next + 1; omega⟩
  split
  · exact settleN_nn _ _ (phase_nn h 1)
  split
  · split
    · exact h
    · rename_i f r hf
      exact ⟨nn_cons (f := { f with defers := f.defers ++ [e.n] }) (show 0 ≤ f.id from h.head hf) (h.tail hf), h.2⟩
  split
  · exact settleN_nn _ _ (phase_nn (p := { p with pn := ⟨p.ser, plainM e.v, false, false⟩ :: p.pn, ser := p.ser + 1 }) h 2)
  split
  · unfold recoverM
    split
    · split <;> exact h
    · exact h
  · exact h
theorem stk_nn : ∀ (F : List FrameM), Stk F → ∀ f ∈ F, 0 ≤ f.id
  | [], _, f, hf => by cases hf
  | f :: r, h, g, hg => by
    rcases List.mem_cons.1 hg with rfl | hg
    · exact (stk_id r g h).1
    · cases r with
      | nil => cases hg
      | cons g2 r => exact stk_nn (g2 :: r) h.2 g hg
theorem runs_nn {p : PlM} (h : Runs p) (hn : 0 ≤ p.next) : NN p := ⟨stk_nn _ h.stk, hn⟩
end Go.Proofs.Ytiicdknmoakocaa
