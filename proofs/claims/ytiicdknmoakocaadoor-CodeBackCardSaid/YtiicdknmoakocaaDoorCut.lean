/-
  Package strings: Cut at one byte. Condition: the text is shorter than 2^32 bytes.
-/
import Derived.Test.YtiicdknmoakocaaDoorShelf
import Derived.Test.YtiicdknmoakocaaDoorBase
import Derived.Lib.CutLaws
import Derived.Lib.IndexBytes
namespace Go.Proofs.YtiicdknmoakocaaDoor
open Go.RowKit
set_option linter.unusedVariables false
set_option linter.unusedSimpArgs false

set_option maxHeartbeats 2000000 in
set_option maxRecDepth 20000 in
theorem slcut1_any (s : ByteArray) (c : UInt8) (w : World) (hs : s.size < 4294967281) :
    Calls Tryd.prog 36 #[.string s, .string ⟨#[c]⟩] w fun e w' => e = .returned (.tuple #[.string ⟨(Lib.cut s.data.toList [c]).1.toArray⟩, .string ⟨(Lib.cut s.data.toList [c]).2.1.toArray⟩, .bool (Lib.cut s.data.toList [c]).2.2]) ∧ ∃ n, w' = w.drewN n := by
  have HI := fun w => Tryd.stringslite_Index_one s c w
  rw [show Lib.indexByte s.data.toList c = Lib.indexB s ⟨#[c]⟩ from (Lib.index_one _ _).symm] at HI
  rcases Lib.indexB_cases s ⟨#[c]⟩ with hix | ⟨i, hix, hroom⟩
  · obtain ⟨e1, e2, e3⟩ := Lib.cutB_miss s ⟨#[c]⟩ hix
    rw [show (⟨#[c]⟩ : ByteArray).data.toList = [c] from rfl] at e1 e2 e3
    rw [e1, e2, e3]
    rw [hix] at HI
    have HH := hid HI
    clear HI hix e1 e2 e3
    go_enter Tryd.func36, Tryd.ntmps36
    go_wp2_with (go_at_call 45; go_must (refine (HH.out _).mono ?_); rintro e w' ⟨rfl, rfl⟩)
    go_ret3
    exact ⟨rfl, 0, rfl⟩
  · obtain ⟨e1, e2, e3⟩ := Lib.cutB_hit s ⟨#[c]⟩ i hix
    rw [show (⟨#[c]⟩ : ByteArray).data.toList = [c] from rfl] at e1 e2 e3
    rw [e1, e2, e3]
    rw [hix] at HI
    have HH := hid HI
    have hz : (⟨#[c]⟩ : ByteArray).size = 1 := rfl
    rw [hz] at hroom
    have c1 : (0 : Int) ≤ ↑i := by omega
    have c2 : (↑i : Int) ≤ ↑s.size := by omega
    have c3 : (0 : Int) ≤ ↑i + 1 := by omega
    have c4 : (↑i + 1 : Int) ≤ ↑s.size := by omega
    clear HI hix e1 e2 e3
    go_enter Tryd.func36, Tryd.ntmps36
    go_wp2_with (go_at_call 45; go_must (refine (HH.out _).mono ?_); rintro e w' ⟨rfl, rfl⟩)
    have k1 : IntKind.i64.wrap ((i : Int) + 1) = (i : Int) + 1 := by rw [IntKind.wrap_i64]; omega
    go_region
    go_wp2
    go_ret3
    exact ⟨rfl, 1, rfl⟩
set_option maxHeartbeats 1000000 in
theorem cut1_any (s : ByteArray) (c : UInt8) (w : World) (hs : s.size < 4294967281) :
    Calls Tryd.prog 26 #[.string s, .string ⟨#[c]⟩] w fun e w' => e = .returned (.tuple #[.string ⟨(Lib.cut s.data.toList [c]).1.toArray⟩, .string ⟨(Lib.cut s.data.toList [c]).2.1.toArray⟩, .bool (Lib.cut s.data.toList [c]).2.2]) ∧ Kp w w' := by
  have HC := fun w => slcut1_any s c w hs
  generalize (Lib.cut s.data.toList [c]).1.toArray = X at HC ⊢
  generalize (Lib.cut s.data.toList [c]).2.1.toArray = Y at HC ⊢
  generalize (Lib.cut s.data.toList [c]).2.2 = Z at HC ⊢
  have HH := hid HC
  clear HC
  go_enter Tryd.func26, Tryd.ntmps26
  go_wp2_with (go_at_call 36; go_must (refine (HH.out _).mono ?_); rintro e w' ⟨rfl, n, rfl⟩)
  go_ret3
  exact ⟨rfl, (Kp.refl w).drewN n⟩
end Go.Proofs.YtiicdknmoakocaaDoor
