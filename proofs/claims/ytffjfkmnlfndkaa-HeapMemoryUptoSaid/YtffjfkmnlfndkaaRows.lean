/-
  No cell of these rows narrows 'for every input' (looked for: loops, veiled, ifaces, maps, wideKeys, modest, calm, conditions, laid).
  DERIVED. THE GIVEN ROWS OF THIS SEAT. 12 by the template 'for every input the law returns true; each argument reads behind the call as it read before'; 0 by the template 'total and deterministic' (their statements: YtffjfkmnlfndkaaTotals.lean).
  GIVEN WITH THE SEED: the statements are not yours to turn. If you find one false, say at which input.
  Laid BY PROGRAM, IN A SANDBOX (cutbox-rows.mjs): the forced cells as the released guide's own fill.sh prints them over the translation 4e5610e5735a608e… (all of the seat's roots in one cut). By AI agents, Wed Nov 11 2026. No macro, syntax, notation, axiom, sorry.
-/
import Derived.Test.YtffjfkmnlfndkaaChecked
import GoSem.Claim
import GoSem.ClaimJoined
import GoSem.ClaimMapViews
import Derived.JoinedTies
import Derived.KernelRfl
namespace Go.Proofs.Ytffjfkmnlfndkaa
/- THE CELL 'sum', in the pinned program and in every row, IS THE sha256 OF THE DUMP (.gsa) THAT YtffjfkmnlfndkaaProg.lean LOADS. Nothing in Lean hashes anything: it is a label: what it is worth is what the hold of that sum in a sandbox is worth. -/
noncomputable def Try.pinned : Pinned := { name := "ytffjfkmnlfndkaa", sum := "4e5610e5735a608ec838014da1139de7fb784af7e58bcb114c0c4837437bac3a", checked := Try.checked }
namespace Rows
def none {H : Type} : Left H := { results := [], args := [] }

/-- 'panicroadkeep.HeapHolds': WHATEVER THE INPUT: true; the input reads as it did. -/
def heapHoldsSpec : ChangeSpec := { name := "heapHolds", fn := fun _ => fun
  | [d1, d2, d3, d4, d5] => { results := [.lit (.bool true)], args := [d1, d2, d3, d4, d5] }
  | _ => none }
def heapHoldsRow : OpenClaim := { program := "ytffjfkmnlfndkaa", sum := "4e5610e5735a608ec838014da1139de7fb784af7e58bcb114c0c4837437bac3a", func := "panicroad/panicroadkeep.HeapHolds", spec := "heapHolds", apart := false }
def HeapHoldsSaid : Prop := heapHoldsRow.holds Try.pinned (OpenSpec.ofChange heapHoldsSpec)

/-- ITS FALSE NEIGHBOUR: 'it returns false'. Refute it at one input. -/
def heapHoldsWrong : ChangeSpec := { name := "heapHolds", fn := fun _ => fun
  | [d1, d2, d3, d4, d5] => { results := [.lit (.bool false)], args := [d1, d2, d3, d4, d5] }
  | _ => none }
def HeapHoldsWrongFalsely : Prop := heapHoldsRow.holds Try.pinned (OpenSpec.ofChange heapHoldsWrong)

/-- 'panicroadkeep.HeapMemory': WHATEVER THE INPUT: true; the input reads as it did. -/
def heapMemorySpec : ChangeSpec := { name := "heapMemory", fn := fun _ => fun
  | [d1, d2, d3] => { results := [.lit (.bool true)], args := [d1, d2, d3] }
  | _ => none }
def heapMemoryRow : OpenClaim := { program := "ytffjfkmnlfndkaa", sum := "4e5610e5735a608ec838014da1139de7fb784af7e58bcb114c0c4837437bac3a", func := "panicroad/panicroadkeep.HeapMemory", spec := "heapMemory", apart := false }
def HeapMemorySaid : Prop := heapMemoryRow.holds Try.pinned (OpenSpec.ofChange heapMemorySpec)

/-- ITS FALSE NEIGHBOUR: 'it returns false'. Refute it at one input. -/
def heapMemoryWrong : ChangeSpec := { name := "heapMemory", fn := fun _ => fun
  | [d1, d2, d3] => { results := [.lit (.bool false)], args := [d1, d2, d3] }
  | _ => none }
def HeapMemoryWrongFalsely : Prop := heapMemoryRow.holds Try.pinned (OpenSpec.ofChange heapMemoryWrong)

/-- 'panicroadkeep.HeapKeeps': WHATEVER THE INPUT: true; the input reads as it did. -/
def heapKeepsSpec : ChangeSpec := { name := "heapKeeps", fn := fun _ => fun
  | [d1, d2, d3] => { results := [.lit (.bool true)], args := [d1, d2, d3] }
  | _ => none }
def heapKeepsRow : OpenClaim := { program := "ytffjfkmnlfndkaa", sum := "4e5610e5735a608ec838014da1139de7fb784af7e58bcb114c0c4837437bac3a", func := "panicroad/panicroadkeep.HeapKeeps", spec := "heapKeeps", apart := false }
def HeapKeepsSaid : Prop := heapKeepsRow.holds Try.pinned (OpenSpec.ofChange heapKeepsSpec)

/-- ITS FALSE NEIGHBOUR: 'it returns false'. Refute it at one input. -/
def heapKeepsWrong : ChangeSpec := { name := "heapKeeps", fn := fun _ => fun
  | [d1, d2, d3] => { results := [.lit (.bool false)], args := [d1, d2, d3] }
  | _ => none }
def HeapKeepsWrongFalsely : Prop := heapKeepsRow.holds Try.pinned (OpenSpec.ofChange heapKeepsWrong)

/-- 'panicroadkeep.HeapApart': WHATEVER THE INPUT: true; the input reads as it did. -/
def heapApartSpec : ChangeSpec := { name := "heapApart", fn := fun _ => fun
  | [d1, d2, d3] => { results := [.lit (.bool true)], args := [d1, d2, d3] }
  | _ => none }
def heapApartRow : OpenClaim := { program := "ytffjfkmnlfndkaa", sum := "4e5610e5735a608ec838014da1139de7fb784af7e58bcb114c0c4837437bac3a", func := "panicroad/panicroadkeep.HeapApart", spec := "heapApart", apart := false }
def HeapApartSaid : Prop := heapApartRow.holds Try.pinned (OpenSpec.ofChange heapApartSpec)

/-- ITS FALSE NEIGHBOUR: 'it returns false'. Refute it at one input. -/
def heapApartWrong : ChangeSpec := { name := "heapApart", fn := fun _ => fun
  | [d1, d2, d3] => { results := [.lit (.bool false)], args := [d1, d2, d3] }
  | _ => none }
def HeapApartWrongFalsely : Prop := heapApartRow.holds Try.pinned (OpenSpec.ofChange heapApartWrong)

/-- 'panicroadkeep.HeapFits': WHATEVER THE INPUT: true; the input reads as it did. -/
def heapFitsSpec : ChangeSpec := { name := "heapFits", fn := fun _ => fun
  | [d1, d2, d3, d4] => { results := [.lit (.bool true)], args := [d1, d2, d3, d4] }
  | _ => none }
def heapFitsRow : OpenClaim := { program := "ytffjfkmnlfndkaa", sum := "4e5610e5735a608ec838014da1139de7fb784af7e58bcb114c0c4837437bac3a", func := "panicroad/panicroadkeep.HeapFits", spec := "heapFits", apart := false }
def HeapFitsSaid : Prop := heapFitsRow.holds Try.pinned (OpenSpec.ofChange heapFitsSpec)

/-- ITS FALSE NEIGHBOUR: 'it returns false'. Refute it at one input. -/
def heapFitsWrong : ChangeSpec := { name := "heapFits", fn := fun _ => fun
  | [d1, d2, d3, d4] => { results := [.lit (.bool false)], args := [d1, d2, d3, d4] }
  | _ => none }
def HeapFitsWrongFalsely : Prop := heapFitsRow.holds Try.pinned (OpenSpec.ofChange heapFitsWrong)

/-- 'panicroadkeep.HeapCounts': WHATEVER THE INPUT: true; the input reads as it did. -/
def heapCountsSpec : ChangeSpec := { name := "heapCounts", fn := fun _ => fun
  | [d1, d2, d3] => { results := [.lit (.bool true)], args := [d1, d2, d3] }
  | _ => none }
def heapCountsRow : OpenClaim := { program := "ytffjfkmnlfndkaa", sum := "4e5610e5735a608ec838014da1139de7fb784af7e58bcb114c0c4837437bac3a", func := "panicroad/panicroadkeep.HeapCounts", spec := "heapCounts", unfollowed := true, recurses := true, apart := false }
def HeapCountsSaid : Prop := heapCountsRow.holds Try.pinned (OpenSpec.ofChange heapCountsSpec)

/-- ITS FALSE NEIGHBOUR: 'it returns false'. Refute it at one input. -/
def heapCountsWrong : ChangeSpec := { name := "heapCounts", fn := fun _ => fun
  | [d1, d2, d3] => { results := [.lit (.bool false)], args := [d1, d2, d3] }
  | _ => none }
def HeapCountsWrongFalsely : Prop := heapCountsRow.holds Try.pinned (OpenSpec.ofChange heapCountsWrong)

/-- 'panicroadkeep.ValueOrderly': WHATEVER THE INPUT: true; the input reads as it did. -/
def valueOrderlySpec : ChangeSpec := { name := "valueOrderly", fn := fun _ => fun
  | [d1, d2, d3] => { results := [.lit (.bool true)], args := [d1, d2, d3] }
  | _ => none }
def valueOrderlyRow : OpenClaim := { program := "ytffjfkmnlfndkaa", sum := "4e5610e5735a608ec838014da1139de7fb784af7e58bcb114c0c4837437bac3a", func := "panicroad/panicroadkeep.ValueOrderly", spec := "valueOrderly", inPlace := ["internal/bytealg.abigen_runtime_cmpstring"], apart := false }
def ValueOrderlySaid : Prop := valueOrderlyRow.holds Try.pinned (OpenSpec.ofChange valueOrderlySpec)

/-- ITS FALSE NEIGHBOUR: 'it returns false'. Refute it at one input. -/
def valueOrderlyWrong : ChangeSpec := { name := "valueOrderly", fn := fun _ => fun
  | [d1, d2, d3] => { results := [.lit (.bool false)], args := [d1, d2, d3] }
  | _ => none }
def ValueOrderlyWrongFalsely : Prop := valueOrderlyRow.holds Try.pinned (OpenSpec.ofChange valueOrderlyWrong)

/-- 'panicroadkeep.ValueAlike': WHATEVER THE INPUT: true; the input reads as it did. -/
def valueAlikeSpec : ChangeSpec := { name := "valueAlike", fn := fun _ => fun
  | [d1, d2, d3] => { results := [.lit (.bool true)], args := [d1, d2, d3] }
  | _ => none }
def valueAlikeRow : OpenClaim := { program := "ytffjfkmnlfndkaa", sum := "4e5610e5735a608ec838014da1139de7fb784af7e58bcb114c0c4837437bac3a", func := "panicroad/panicroadkeep.ValueAlike", spec := "valueAlike", inPlace := ["internal/abi.NoEscape", "internal/bytealg.MakeNoZero"], apart := false }
def ValueAlikeSaid : Prop := valueAlikeRow.holds Try.pinned (OpenSpec.ofChange valueAlikeSpec)

/-- ITS FALSE NEIGHBOUR: 'it returns false'. Refute it at one input. -/
def valueAlikeWrong : ChangeSpec := { name := "valueAlike", fn := fun _ => fun
  | [d1, d2, d3] => { results := [.lit (.bool false)], args := [d1, d2, d3] }
  | _ => none }
def ValueAlikeWrongFalsely : Prop := valueAlikeRow.holds Try.pinned (OpenSpec.ofChange valueAlikeWrong)

/-- 'panicroadkeep.ValueMemory': WHATEVER THE INPUT: true; the input reads as it did. -/
def valueMemorySpec : ChangeSpec := { name := "valueMemory", fn := fun _ => fun
  | [d] => { results := [.lit (.bool true)], args := [d] }
  | _ => none }
def valueMemoryRow : OpenClaim := { program := "ytffjfkmnlfndkaa", sum := "4e5610e5735a608ec838014da1139de7fb784af7e58bcb114c0c4837437bac3a", func := "panicroad/panicroadkeep.ValueMemory", spec := "valueMemory", inPlace := ["internal/abi.NoEscape", "internal/bytealg.MakeNoZero"], apart := false }
def ValueMemorySaid : Prop := valueMemoryRow.holds Try.pinned (OpenSpec.ofChange valueMemorySpec)

/-- ITS FALSE NEIGHBOUR: 'it returns false'. Refute it at one input. -/
def valueMemoryWrong : ChangeSpec := { name := "valueMemory", fn := fun _ => fun
  | [d] => { results := [.lit (.bool false)], args := [d] }
  | _ => none }
def ValueMemoryWrongFalsely : Prop := valueMemoryRow.holds Try.pinned (OpenSpec.ofChange valueMemoryWrong)

/-- 'panicroadkeep.ValueJoined': WHATEVER THE INPUT: true; the input reads as it did. -/
def valueJoinedSpec : ChangeSpec := { name := "valueJoined", fn := fun _ => fun
  | [d] => { results := [.lit (.bool true)], args := [d] }
  | _ => none }
def valueJoinedRow : OpenClaim := { program := "ytffjfkmnlfndkaa", sum := "4e5610e5735a608ec838014da1139de7fb784af7e58bcb114c0c4837437bac3a", func := "panicroad/panicroadkeep.ValueJoined", spec := "valueJoined", inPlace := ["internal/abi.NoEscape", "internal/bytealg.MakeNoZero"], apart := false }
def ValueJoinedSaid : Prop := valueJoinedRow.holds Try.pinned (OpenSpec.ofChange valueJoinedSpec)

/-- ITS FALSE NEIGHBOUR: 'it returns false'. Refute it at one input. -/
def valueJoinedWrong : ChangeSpec := { name := "valueJoined", fn := fun _ => fun
  | [d] => { results := [.lit (.bool false)], args := [d] }
  | _ => none }
def ValueJoinedWrongFalsely : Prop := valueJoinedRow.holds Try.pinned (OpenSpec.ofChange valueJoinedWrong)

/-- 'panicroadkeep.ValueSeen': WHATEVER THE INPUT: true; the input reads as it did. -/
def valueSeenSpec : ChangeSpec := { name := "valueSeen", fn := fun _ => fun
  | [d1, d2] => { results := [.lit (.bool true)], args := [d1, d2] }
  | _ => none }
def valueSeenRow : OpenClaim := { program := "ytffjfkmnlfndkaa", sum := "4e5610e5735a608ec838014da1139de7fb784af7e58bcb114c0c4837437bac3a", func := "panicroad/panicroadkeep.ValueSeen", spec := "valueSeen", inPlace := ["internal/abi.NoEscape", "internal/bytealg.MakeNoZero"], apart := false }
def ValueSeenSaid : Prop := valueSeenRow.holds Try.pinned (OpenSpec.ofChange valueSeenSpec)

/-- ITS FALSE NEIGHBOUR: 'it returns false'. Refute it at one input. -/
def valueSeenWrong : ChangeSpec := { name := "valueSeen", fn := fun _ => fun
  | [d1, d2] => { results := [.lit (.bool false)], args := [d1, d2] }
  | _ => none }
def ValueSeenWrongFalsely : Prop := valueSeenRow.holds Try.pinned (OpenSpec.ofChange valueSeenWrong)

/-- 'panicroadkeep.ReportRows': WHATEVER THE INPUT: true; the input reads as it did. -/
def reportRowsSpec : ChangeSpec := { name := "reportRows", fn := fun _ => fun
  | [d] => { results := [.lit (.bool true)], args := [d] }
  | _ => none }
def reportRowsRow : OpenClaim := { program := "ytffjfkmnlfndkaa", sum := "4e5610e5735a608ec838014da1139de7fb784af7e58bcb114c0c4837437bac3a", func := "panicroad/panicroadkeep.ReportRows", spec := "reportRows", inPlace := ["internal/abi.NoEscape", "internal/bytealg.IndexByteString"], apart := false }
def ReportRowsSaid : Prop := reportRowsRow.holds Try.pinned (OpenSpec.ofChange reportRowsSpec)

/-- ITS FALSE NEIGHBOUR: 'it returns false'. Refute it at one input. -/
def reportRowsWrong : ChangeSpec := { name := "reportRows", fn := fun _ => fun
  | [d] => { results := [.lit (.bool false)], args := [d] }
  | _ => none }
def ReportRowsWrongFalsely : Prop := reportRowsRow.holds Try.pinned (OpenSpec.ofChange reportRowsWrong)

/- THE SECOND FORM. 'bulk': how many values and letters a reading holds, each counted each time it is reached (what is shared counts as often as it is met; a slice's spare places count too). A statement '..UptoSaid' is the law's where the arguments, and the package variables that the reading takes, are together of bulk at most 1048576: NARROWER than '..Said'. Prove '..Said' where nothing that the law and all that it calls make is longer than what came in: it says more and counts as full. Else prove '..UptoSaid'. A law counts once. -/
mutual
def uptoBulk {H : Type} : DataW H → Nat
  | .lit (.string bytes) => bytes.length + 1
  | .lit _ => 1
  | .nil => 1
  | .ptr d => uptoBulk d + 1
  | .slice elems spare => uptoBulkAll elems + uptoBulkAll spare + 1
  | .agg parts => uptoBulkAll parts + 1
  | .iface _ d => uptoBulk d + 1
  | .map entries => uptoBulkEntries entries + 1
  | .held _ => 1
def uptoBulkAll {H : Type} : List (DataW H) → Nat
  | [] => 0
  | d :: r => uptoBulk d + uptoBulkAll r
def uptoBulkEntries {H : Type} : List (Lit × DataW H) → Nat
  | [] => 0
  | x :: r => uptoBulkEntry x + uptoBulkEntries r
def uptoBulkEntry {H : Type} : Lit × DataW H → Nat
  | (.string bytes, d) => bytes.length + uptoBulk d + 1
  | (_, d) => uptoBulk d + 1
 end
def uptoSmall : (H : Type) → List (DataW H) → Bool := fun _ ds => decide (uptoBulkAll ds ≤ 1048576)
def OpenSpec.upto (s : _root_.Go.ChangeSpec) : _root_.Go.OpenSpec := { _root_.Go.OpenSpec.ofChange s with cond := some uptoSmall }

/-- 'panicroadkeep.HeapHolds', WHERE WHAT IT READS IS OF BULK AT MOST 1048576: true; the input reads as it did. -/
def heapHoldsUptoRow : OpenClaim := { program := "ytffjfkmnlfndkaa", sum := "4e5610e5735a608ec838014da1139de7fb784af7e58bcb114c0c4837437bac3a", func := "panicroad/panicroadkeep.HeapHolds", spec := "heapHolds", apart := false, narrowed := true }
def HeapHoldsUptoSaid : Prop := heapHoldsUptoRow.holds Try.pinned (OpenSpec.upto heapHoldsSpec)

/-- 'panicroadkeep.HeapMemory', WHERE WHAT IT READS IS OF BULK AT MOST 1048576: true; the input reads as it did. -/
def heapMemoryUptoRow : OpenClaim := { program := "ytffjfkmnlfndkaa", sum := "4e5610e5735a608ec838014da1139de7fb784af7e58bcb114c0c4837437bac3a", func := "panicroad/panicroadkeep.HeapMemory", spec := "heapMemory", apart := false, narrowed := true }
def HeapMemoryUptoSaid : Prop := heapMemoryUptoRow.holds Try.pinned (OpenSpec.upto heapMemorySpec)

/-- 'panicroadkeep.HeapKeeps', WHERE WHAT IT READS IS OF BULK AT MOST 1048576: true; the input reads as it did. -/
def heapKeepsUptoRow : OpenClaim := { program := "ytffjfkmnlfndkaa", sum := "4e5610e5735a608ec838014da1139de7fb784af7e58bcb114c0c4837437bac3a", func := "panicroad/panicroadkeep.HeapKeeps", spec := "heapKeeps", apart := false, narrowed := true }
def HeapKeepsUptoSaid : Prop := heapKeepsUptoRow.holds Try.pinned (OpenSpec.upto heapKeepsSpec)

/-- 'panicroadkeep.HeapApart', WHERE WHAT IT READS IS OF BULK AT MOST 1048576: true; the input reads as it did. -/
def heapApartUptoRow : OpenClaim := { program := "ytffjfkmnlfndkaa", sum := "4e5610e5735a608ec838014da1139de7fb784af7e58bcb114c0c4837437bac3a", func := "panicroad/panicroadkeep.HeapApart", spec := "heapApart", apart := false, narrowed := true }
def HeapApartUptoSaid : Prop := heapApartUptoRow.holds Try.pinned (OpenSpec.upto heapApartSpec)

/-- 'panicroadkeep.HeapFits', WHERE WHAT IT READS IS OF BULK AT MOST 1048576: true; the input reads as it did. -/
def heapFitsUptoRow : OpenClaim := { program := "ytffjfkmnlfndkaa", sum := "4e5610e5735a608ec838014da1139de7fb784af7e58bcb114c0c4837437bac3a", func := "panicroad/panicroadkeep.HeapFits", spec := "heapFits", apart := false, narrowed := true }
def HeapFitsUptoSaid : Prop := heapFitsUptoRow.holds Try.pinned (OpenSpec.upto heapFitsSpec)

/-- 'panicroadkeep.HeapCounts', WHERE WHAT IT READS IS OF BULK AT MOST 1048576: true; the input reads as it did. -/
def heapCountsUptoRow : OpenClaim := { program := "ytffjfkmnlfndkaa", sum := "4e5610e5735a608ec838014da1139de7fb784af7e58bcb114c0c4837437bac3a", func := "panicroad/panicroadkeep.HeapCounts", spec := "heapCounts", unfollowed := true, recurses := true, apart := false, narrowed := true }
def HeapCountsUptoSaid : Prop := heapCountsUptoRow.holds Try.pinned (OpenSpec.upto heapCountsSpec)

/-- 'panicroadkeep.ValueOrderly', WHERE WHAT IT READS IS OF BULK AT MOST 1048576: true; the input reads as it did. -/
def valueOrderlyUptoRow : OpenClaim := { program := "ytffjfkmnlfndkaa", sum := "4e5610e5735a608ec838014da1139de7fb784af7e58bcb114c0c4837437bac3a", func := "panicroad/panicroadkeep.ValueOrderly", spec := "valueOrderly", inPlace := ["internal/bytealg.abigen_runtime_cmpstring"], apart := false, narrowed := true }
def ValueOrderlyUptoSaid : Prop := valueOrderlyUptoRow.holds Try.pinned (OpenSpec.upto valueOrderlySpec)

/-- 'panicroadkeep.ValueAlike', WHERE WHAT IT READS IS OF BULK AT MOST 1048576: true; the input reads as it did. -/
def valueAlikeUptoRow : OpenClaim := { program := "ytffjfkmnlfndkaa", sum := "4e5610e5735a608ec838014da1139de7fb784af7e58bcb114c0c4837437bac3a", func := "panicroad/panicroadkeep.ValueAlike", spec := "valueAlike", inPlace := ["internal/abi.NoEscape", "internal/bytealg.MakeNoZero"], apart := false, narrowed := true }
def ValueAlikeUptoSaid : Prop := valueAlikeUptoRow.holds Try.pinned (OpenSpec.upto valueAlikeSpec)

/-- 'panicroadkeep.ValueMemory', WHERE WHAT IT READS IS OF BULK AT MOST 1048576: true; the input reads as it did. -/
def valueMemoryUptoRow : OpenClaim := { program := "ytffjfkmnlfndkaa", sum := "4e5610e5735a608ec838014da1139de7fb784af7e58bcb114c0c4837437bac3a", func := "panicroad/panicroadkeep.ValueMemory", spec := "valueMemory", inPlace := ["internal/abi.NoEscape", "internal/bytealg.MakeNoZero"], apart := false, narrowed := true }
def ValueMemoryUptoSaid : Prop := valueMemoryUptoRow.holds Try.pinned (OpenSpec.upto valueMemorySpec)

/-- 'panicroadkeep.ValueJoined', WHERE WHAT IT READS IS OF BULK AT MOST 1048576: true; the input reads as it did. -/
def valueJoinedUptoRow : OpenClaim := { program := "ytffjfkmnlfndkaa", sum := "4e5610e5735a608ec838014da1139de7fb784af7e58bcb114c0c4837437bac3a", func := "panicroad/panicroadkeep.ValueJoined", spec := "valueJoined", inPlace := ["internal/abi.NoEscape", "internal/bytealg.MakeNoZero"], apart := false, narrowed := true }
def ValueJoinedUptoSaid : Prop := valueJoinedUptoRow.holds Try.pinned (OpenSpec.upto valueJoinedSpec)

/-- 'panicroadkeep.ValueSeen', WHERE WHAT IT READS IS OF BULK AT MOST 1048576: true; the input reads as it did. -/
def valueSeenUptoRow : OpenClaim := { program := "ytffjfkmnlfndkaa", sum := "4e5610e5735a608ec838014da1139de7fb784af7e58bcb114c0c4837437bac3a", func := "panicroad/panicroadkeep.ValueSeen", spec := "valueSeen", inPlace := ["internal/abi.NoEscape", "internal/bytealg.MakeNoZero"], apart := false, narrowed := true }
def ValueSeenUptoSaid : Prop := valueSeenUptoRow.holds Try.pinned (OpenSpec.upto valueSeenSpec)

/-- 'panicroadkeep.ReportRows', WHERE WHAT IT READS IS OF BULK AT MOST 1048576: true; the input reads as it did. -/
def reportRowsUptoRow : OpenClaim := { program := "ytffjfkmnlfndkaa", sum := "4e5610e5735a608ec838014da1139de7fb784af7e58bcb114c0c4837437bac3a", func := "panicroad/panicroadkeep.ReportRows", spec := "reportRows", inPlace := ["internal/abi.NoEscape", "internal/bytealg.IndexByteString"], apart := false, narrowed := true }
def ReportRowsUptoSaid : Prop := reportRowsUptoRow.holds Try.pinned (OpenSpec.upto reportRowsSpec)

end Rows
end Go.Proofs.Ytffjfkmnlfndkaa
