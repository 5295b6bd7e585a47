/-
  Numbers' texts, folded; texts put together. No condition.
-/
import Derived.Test.YtiicdknmoakocaaDoorText
import Derived.Test.YtiicdknmoakocaaDoorInts
namespace Go.Proofs.YtiicdknmoakocaaDoor
open Go.RowKit
set_option linter.unusedVariables false

theorem ba_size (l : List UInt8) : (⟨l.toArray⟩ : ByteArray).size = l.length := by simp [ByteArray.size]
theorem bapp (x y : List UInt8) : (⟨x.toArray⟩ : ByteArray) ++ ⟨y.toArray⟩ = ⟨(x ++ y).toArray⟩ := by
  apply ByteArray.ext
  rw [ByteArray.data_append]
  apply Array.toList_inj.1
  simp
/-- A number's text. -/
def tx (v : Int) : ByteArray := ⟨(Lib.itoa v).toArray⟩
theorem tx_any (v : Int) (w : World) (h : okI v) : Calls Tryd.prog 15 #[.int .i64 v] w fun e w' => e = .returned (.string (tx v)) ∧ Kp w w' := text_any v w h
theorem tx_size (v : Int) (h : okI v) : (tx v).size ≤ 20 := by
  unfold tx
  show (Lib.itoa v).toArray.size ≤ 20
  rw [List.size_toArray]
  unfold Lib.itoa
  have h1 := dec_len 18 v.natAbs (by unfold okI at h; omega)
  unfold okI at h
  split
  · rw [List.length_cons]; omega
  · have h3 := dec_len 18 v.toNat (by omega)
    omega
theorem rs {a b : List UInt8} {v : Value} (hv : v = .string ⟨a.toArray⟩) (h : a = b) : Ending.returned v = .returned (.string ⟨b.toArray⟩) := by rw [hv, h]
end Go.Proofs.YtiicdknmoakocaaDoor
