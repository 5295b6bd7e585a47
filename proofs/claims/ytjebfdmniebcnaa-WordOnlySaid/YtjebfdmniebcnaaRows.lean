/-
  No cell of these rows narrows 'for every input' (looked for: loops, veiled, ifaces, maps, wideKeys, modest, calm, conditions, laid).
  DERIVED. THE GIVEN ROWS OF THIS SEAT. 12 by the template 'for every input the law returns true; each argument reads behind the call as it read before'; 0 by the template 'total and deterministic' (their statements: YtjebfdmniebcnaaTotals.lean).
  GIVEN WITH THE SEED: the statements are not yours to turn. If you find one false, say at which input.
  Laid BY PROGRAM, IN A SANDBOX (cutbox-rows.mjs): the forced cells as the released guide's own fill.sh prints them over the translation 1a1d4e3cff80d7c5… (all of the seat's roots in one cut). By AI agents, Wed Nov 11 2026. No macro, syntax, notation, axiom, sorry.
-/
import Derived.Test.YtjebfdmniebcnaaChecked
import GoSem.Claim
import GoSem.ClaimJoined
import GoSem.ClaimMapViews
import Derived.JoinedTies
import Derived.KernelRfl
namespace Go.Proofs.Ytjebfdmniebcnaa
/- THE CELL 'sum', in the pinned program and in every row, IS THE sha256 OF THE DUMP (.gsa) THAT YtjebfdmniebcnaaProg.lean LOADS. Nothing in Lean hashes anything: it is a label: what it is worth is what the hold of that sum in a sandbox is worth. -/
noncomputable def Try.pinned : Pinned := { name := "ytjebfdmniebcnaa", sum := "1a1d4e3cff80d7c548566e442df0947047fc4a302c7606a8d2f8306e9fbff07b", checked := Try.checked }
namespace Rows
def none {H : Type} : Left H := { results := [], args := [] }

/-- 'panicroadkeep.WordSignBack': WHATEVER THE INPUT: true; the input reads as it did. -/
def wordSignBackSpec : ChangeSpec := { name := "wordSignBack", fn := fun _ => fun
  | [d] => { results := [.lit (.bool true)], args := [d] }
  | _ => none }
def wordSignBackRow : OpenClaim := { program := "ytjebfdmniebcnaa", sum := "1a1d4e3cff80d7c548566e442df0947047fc4a302c7606a8d2f8306e9fbff07b", func := "panicroad/panicroadkeep.WordSignBack", spec := "wordSignBack", apart := false }
def WordSignBackSaid : Prop := wordSignBackRow.holds Try.pinned (OpenSpec.ofChange wordSignBackSpec)

/-- ITS FALSE NEIGHBOUR: 'it returns false'. Refute it at one input. -/
def wordSignBackWrong : ChangeSpec := { name := "wordSignBack", fn := fun _ => fun
  | [d] => { results := [.lit (.bool false)], args := [d] }
  | _ => none }
def WordSignBackWrongFalsely : Prop := wordSignBackRow.holds Try.pinned (OpenSpec.ofChange wordSignBackWrong)

/-- 'panicroadkeep.WordOrderly': WHATEVER THE INPUT: true; the input reads as it did. -/
def wordOrderlySpec : ChangeSpec := { name := "wordOrderly", fn := fun _ => fun
  | [d1, d2, d3] => { results := [.lit (.bool true)], args := [d1, d2, d3] }
  | _ => none }
def wordOrderlyRow : OpenClaim := { program := "ytjebfdmniebcnaa", sum := "1a1d4e3cff80d7c548566e442df0947047fc4a302c7606a8d2f8306e9fbff07b", func := "panicroad/panicroadkeep.WordOrderly", spec := "wordOrderly", apart := false }
def WordOrderlySaid : Prop := wordOrderlyRow.holds Try.pinned (OpenSpec.ofChange wordOrderlySpec)

/-- ITS FALSE NEIGHBOUR: 'it returns false'. Refute it at one input. -/
def wordOrderlyWrong : ChangeSpec := { name := "wordOrderly", fn := fun _ => fun
  | [d1, d2, d3] => { results := [.lit (.bool false)], args := [d1, d2, d3] }
  | _ => none }
def WordOrderlyWrongFalsely : Prop := wordOrderlyRow.holds Try.pinned (OpenSpec.ofChange wordOrderlyWrong)

/-- 'panicroadkeep.WordRing': WHATEVER THE INPUT: true; the input reads as it did. -/
def wordRingSpec : ChangeSpec := { name := "wordRing", fn := fun _ => fun
  | [d1, d2, d3] => { results := [.lit (.bool true)], args := [d1, d2, d3] }
  | _ => none }
def wordRingRow : OpenClaim := { program := "ytjebfdmniebcnaa", sum := "1a1d4e3cff80d7c548566e442df0947047fc4a302c7606a8d2f8306e9fbff07b", func := "panicroad/panicroadkeep.WordRing", spec := "wordRing", apart := false }
def WordRingSaid : Prop := wordRingRow.holds Try.pinned (OpenSpec.ofChange wordRingSpec)

/-- ITS FALSE NEIGHBOUR: 'it returns false'. Refute it at one input. -/
def wordRingWrong : ChangeSpec := { name := "wordRing", fn := fun _ => fun
  | [d1, d2, d3] => { results := [.lit (.bool false)], args := [d1, d2, d3] }
  | _ => none }
def WordRingWrongFalsely : Prop := wordRingRow.holds Try.pinned (OpenSpec.ofChange wordRingWrong)

/-- 'panicroadkeep.WordDivides': WHATEVER THE INPUT: true; the input reads as it did. -/
def wordDividesSpec : ChangeSpec := { name := "wordDivides", fn := fun _ => fun
  | [d1, d2] => { results := [.lit (.bool true)], args := [d1, d2] }
  | _ => none }
def wordDividesRow : OpenClaim := { program := "ytjebfdmniebcnaa", sum := "1a1d4e3cff80d7c548566e442df0947047fc4a302c7606a8d2f8306e9fbff07b", func := "panicroad/panicroadkeep.WordDivides", spec := "wordDivides", apart := false }
def WordDividesSaid : Prop := wordDividesRow.holds Try.pinned (OpenSpec.ofChange wordDividesSpec)

/-- ITS FALSE NEIGHBOUR: 'it returns false'. Refute it at one input. -/
def wordDividesWrong : ChangeSpec := { name := "wordDivides", fn := fun _ => fun
  | [d1, d2] => { results := [.lit (.bool false)], args := [d1, d2] }
  | _ => none }
def WordDividesWrongFalsely : Prop := wordDividesRow.holds Try.pinned (OpenSpec.ofChange wordDividesWrong)

/-- 'panicroadkeep.WordShifts': WHATEVER THE INPUT: true; the input reads as it did. -/
def wordShiftsSpec : ChangeSpec := { name := "wordShifts", fn := fun _ => fun
  | [d1, d2, d3] => { results := [.lit (.bool true)], args := [d1, d2, d3] }
  | _ => none }
def wordShiftsRow : OpenClaim := { program := "ytjebfdmniebcnaa", sum := "1a1d4e3cff80d7c548566e442df0947047fc4a302c7606a8d2f8306e9fbff07b", func := "panicroad/panicroadkeep.WordShifts", spec := "wordShifts", apart := false }
def WordShiftsSaid : Prop := wordShiftsRow.holds Try.pinned (OpenSpec.ofChange wordShiftsSpec)

/-- ITS FALSE NEIGHBOUR: 'it returns false'. Refute it at one input. -/
def wordShiftsWrong : ChangeSpec := { name := "wordShifts", fn := fun _ => fun
  | [d1, d2, d3] => { results := [.lit (.bool false)], args := [d1, d2, d3] }
  | _ => none }
def WordShiftsWrongFalsely : Prop := wordShiftsRow.holds Try.pinned (OpenSpec.ofChange wordShiftsWrong)

/-- 'panicroadkeep.WordBits': WHATEVER THE INPUT: true; the input reads as it did. -/
def wordBitsSpec : ChangeSpec := { name := "wordBits", fn := fun _ => fun
  | [d1, d2] => { results := [.lit (.bool true)], args := [d1, d2] }
  | _ => none }
def wordBitsRow : OpenClaim := { program := "ytjebfdmniebcnaa", sum := "1a1d4e3cff80d7c548566e442df0947047fc4a302c7606a8d2f8306e9fbff07b", func := "panicroad/panicroadkeep.WordBits", spec := "wordBits", apart := false }
def WordBitsSaid : Prop := wordBitsRow.holds Try.pinned (OpenSpec.ofChange wordBitsSpec)

/-- ITS FALSE NEIGHBOUR: 'it returns false'. Refute it at one input. -/
def wordBitsWrong : ChangeSpec := { name := "wordBits", fn := fun _ => fun
  | [d1, d2] => { results := [.lit (.bool false)], args := [d1, d2] }
  | _ => none }
def WordBitsWrongFalsely : Prop := wordBitsRow.holds Try.pinned (OpenSpec.ofChange wordBitsWrong)

/-- 'panicroadkeep.WordBack': WHATEVER THE INPUT: true; the input reads as it did. -/
def wordBackSpec : ChangeSpec := { name := "wordBack", fn := fun _ => fun
  | [d] => { results := [.lit (.bool true)], args := [d] }
  | _ => none }
def wordBackRow : OpenClaim := { program := "ytjebfdmniebcnaa", sum := "1a1d4e3cff80d7c548566e442df0947047fc4a302c7606a8d2f8306e9fbff07b", func := "panicroad/panicroadkeep.WordBack", spec := "wordBack", apart := false }
def WordBackSaid : Prop := wordBackRow.holds Try.pinned (OpenSpec.ofChange wordBackSpec)

/-- ITS FALSE NEIGHBOUR: 'it returns false'. Refute it at one input. -/
def wordBackWrong : ChangeSpec := { name := "wordBack", fn := fun _ => fun
  | [d] => { results := [.lit (.bool false)], args := [d] }
  | _ => none }
def WordBackWrongFalsely : Prop := wordBackRow.holds Try.pinned (OpenSpec.ofChange wordBackWrong)

/-- 'panicroadkeep.WordOnly': WHATEVER THE INPUT: true; the input reads as it did. -/
def wordOnlySpec : ChangeSpec := { name := "wordOnly", fn := fun _ => fun
  | [d] => { results := [.lit (.bool true)], args := [d] }
  | _ => none }
def wordOnlyRow : OpenClaim := { program := "ytjebfdmniebcnaa", sum := "1a1d4e3cff80d7c548566e442df0947047fc4a302c7606a8d2f8306e9fbff07b", func := "panicroad/panicroadkeep.WordOnly", spec := "wordOnly", apart := false }
def WordOnlySaid : Prop := wordOnlyRow.holds Try.pinned (OpenSpec.ofChange wordOnlySpec)

/-- ITS FALSE NEIGHBOUR: 'it returns false'. Refute it at one input. -/
def wordOnlyWrong : ChangeSpec := { name := "wordOnly", fn := fun _ => fun
  | [d] => { results := [.lit (.bool false)], args := [d] }
  | _ => none }
def WordOnlyWrongFalsely : Prop := wordOnlyRow.holds Try.pinned (OpenSpec.ofChange wordOnlyWrong)

/-- 'panicroadkeep.FaultPieces': WHATEVER THE INPUT: true; the input reads as it did. -/
def faultPiecesSpec : ChangeSpec := { name := "faultPieces", fn := fun _ => fun
  | [d1, d2, d3, d4] => { results := [.lit (.bool true)], args := [d1, d2, d3, d4] }
  | _ => none }
def faultPiecesRow : OpenClaim := { program := "ytjebfdmniebcnaa", sum := "1a1d4e3cff80d7c548566e442df0947047fc4a302c7606a8d2f8306e9fbff07b", func := "panicroad/panicroadkeep.FaultPieces", spec := "faultPieces", apart := false }
def FaultPiecesSaid : Prop := faultPiecesRow.holds Try.pinned (OpenSpec.ofChange faultPiecesSpec)

/-- ITS FALSE NEIGHBOUR: 'it returns false'. Refute it at one input. -/
def faultPiecesWrong : ChangeSpec := { name := "faultPieces", fn := fun _ => fun
  | [d1, d2, d3, d4] => { results := [.lit (.bool false)], args := [d1, d2, d3, d4] }
  | _ => none }
def FaultPiecesWrongFalsely : Prop := faultPiecesRow.holds Try.pinned (OpenSpec.ofChange faultPiecesWrong)

/-- 'panicroadkeep.FaultWithin': WHATEVER THE INPUT: true; the input reads as it did. -/
def faultWithinSpec : ChangeSpec := { name := "faultWithin", fn := fun _ => fun
  | [d1, d2, d3] => { results := [.lit (.bool true)], args := [d1, d2, d3] }
  | _ => none }
def faultWithinRow : OpenClaim := { program := "ytjebfdmniebcnaa", sum := "1a1d4e3cff80d7c548566e442df0947047fc4a302c7606a8d2f8306e9fbff07b", func := "panicroad/panicroadkeep.FaultWithin", spec := "faultWithin", apart := false }
def FaultWithinSaid : Prop := faultWithinRow.holds Try.pinned (OpenSpec.ofChange faultWithinSpec)

/-- ITS FALSE NEIGHBOUR: 'it returns false'. Refute it at one input. -/
def faultWithinWrong : ChangeSpec := { name := "faultWithin", fn := fun _ => fun
  | [d1, d2, d3] => { results := [.lit (.bool false)], args := [d1, d2, d3] }
  | _ => none }
def FaultWithinWrongFalsely : Prop := faultWithinRow.holds Try.pinned (OpenSpec.ofChange faultWithinWrong)

/-- 'panicroadkeep.FaultTells': WHATEVER THE INPUT: true; the input reads as it did. -/
def faultTellsSpec : ChangeSpec := { name := "faultTells", fn := fun _ => fun
  | [d1, d2, d3] => { results := [.lit (.bool true)], args := [d1, d2, d3] }
  | _ => none }
def faultTellsRow : OpenClaim := { program := "ytjebfdmniebcnaa", sum := "1a1d4e3cff80d7c548566e442df0947047fc4a302c7606a8d2f8306e9fbff07b", func := "panicroad/panicroadkeep.FaultTells", spec := "faultTells", apart := false }
def FaultTellsSaid : Prop := faultTellsRow.holds Try.pinned (OpenSpec.ofChange faultTellsSpec)

/-- ITS FALSE NEIGHBOUR: 'it returns false'. Refute it at one input. -/
def faultTellsWrong : ChangeSpec := { name := "faultTells", fn := fun _ => fun
  | [d1, d2, d3] => { results := [.lit (.bool false)], args := [d1, d2, d3] }
  | _ => none }
def FaultTellsWrongFalsely : Prop := faultTellsRow.holds Try.pinned (OpenSpec.ofChange faultTellsWrong)

/-- 'panicroadkeep.ReportStatus': WHATEVER THE INPUT: true; the input reads as it did. -/
def reportStatusSpec : ChangeSpec := { name := "reportStatus", fn := fun _ => fun
  | [d1, d2] => { results := [.lit (.bool true)], args := [d1, d2] }
  | _ => none }
def reportStatusRow : OpenClaim := { program := "ytjebfdmniebcnaa", sum := "1a1d4e3cff80d7c548566e442df0947047fc4a302c7606a8d2f8306e9fbff07b", func := "panicroad/panicroadkeep.ReportStatus", spec := "reportStatus", apart := false }
def ReportStatusSaid : Prop := reportStatusRow.holds Try.pinned (OpenSpec.ofChange reportStatusSpec)

/-- ITS FALSE NEIGHBOUR: 'it returns false'. Refute it at one input. -/
def reportStatusWrong : ChangeSpec := { name := "reportStatus", fn := fun _ => fun
  | [d1, d2] => { results := [.lit (.bool false)], args := [d1, d2] }
  | _ => none }
def ReportStatusWrongFalsely : Prop := reportStatusRow.holds Try.pinned (OpenSpec.ofChange reportStatusWrong)

/- THE SECOND FORM. 'bulk': how many values and letters a reading holds, each counted each time it is reached (what is shared counts as often as it is met; a slice's spare places count too). A statement '..UptoSaid' is the law's where the arguments, and the package variables that the reading takes, are together of bulk at most 1048576: NARROWER than '..Said'. Prove '..Said' where nothing that the law and all that it calls make is longer than what came in: it says more and counts as full. Else prove '..UptoSaid'. A law counts once. -/
mutual
def uptoBulk {H : Type} : DataW H → Nat
  | .lit (.string bytes) => bytes.length + 1
  | .lit _ => 1
  | .nil => 1
  | .ptr d => uptoBulk d + 1
  | .slice elems spare => uptoBulkAll elems + uptoBulkAll spare + 1
  | .agg parts => uptoBulkAll parts + 1
  | .iface _ d => uptoBulk d + 1
  | .map entries => uptoBulkEntries entries + 1
  | .held _ => 1
def uptoBulkAll {H : Type} : List (DataW H) → Nat
  | [] => 0
  | d :: r => uptoBulk d + uptoBulkAll r
def uptoBulkEntries {H : Type} : List (Lit × DataW H) → Nat
  | [] => 0
  | x :: r => uptoBulkEntry x + uptoBulkEntries r
def uptoBulkEntry {H : Type} : Lit × DataW H → Nat
  | (.string bytes, d) => bytes.length + uptoBulk d + 1
  | (_, d) => uptoBulk d + 1
 end
def uptoSmall : (H : Type) → List (DataW H) → Bool := fun _ ds => decide (uptoBulkAll ds ≤ 1048576)
def OpenSpec.upto (s : _root_.Go.ChangeSpec) : _root_.Go.OpenSpec := { _root_.Go.OpenSpec.ofChange s with cond := some uptoSmall }

/-- 'panicroadkeep.WordSignBack', WHERE WHAT IT READS IS OF BULK AT MOST 1048576: true; the input reads as it did. -/
def wordSignBackUptoRow : OpenClaim := { program := "ytjebfdmniebcnaa", sum := "1a1d4e3cff80d7c548566e442df0947047fc4a302c7606a8d2f8306e9fbff07b", func := "panicroad/panicroadkeep.WordSignBack", spec := "wordSignBack", apart := false, narrowed := true }
def WordSignBackUptoSaid : Prop := wordSignBackUptoRow.holds Try.pinned (OpenSpec.upto wordSignBackSpec)

/-- 'panicroadkeep.WordOrderly', WHERE WHAT IT READS IS OF BULK AT MOST 1048576: true; the input reads as it did. -/
def wordOrderlyUptoRow : OpenClaim := { program := "ytjebfdmniebcnaa", sum := "1a1d4e3cff80d7c548566e442df0947047fc4a302c7606a8d2f8306e9fbff07b", func := "panicroad/panicroadkeep.WordOrderly", spec := "wordOrderly", apart := false, narrowed := true }
def WordOrderlyUptoSaid : Prop := wordOrderlyUptoRow.holds Try.pinned (OpenSpec.upto wordOrderlySpec)

/-- 'panicroadkeep.WordRing', WHERE WHAT IT READS IS OF BULK AT MOST 1048576: true; the input reads as it did. -/
def wordRingUptoRow : OpenClaim := { program := "ytjebfdmniebcnaa", sum := "1a1d4e3cff80d7c548566e442df0947047fc4a302c7606a8d2f8306e9fbff07b", func := "panicroad/panicroadkeep.WordRing", spec := "wordRing", apart := false, narrowed := true }
def WordRingUptoSaid : Prop := wordRingUptoRow.holds Try.pinned (OpenSpec.upto wordRingSpec)

/-- 'panicroadkeep.WordDivides', WHERE WHAT IT READS IS OF BULK AT MOST 1048576: true; the input reads as it did. -/
def wordDividesUptoRow : OpenClaim := { program := "ytjebfdmniebcnaa", sum := "1a1d4e3cff80d7c548566e442df0947047fc4a302c7606a8d2f8306e9fbff07b", func := "panicroad/panicroadkeep.WordDivides", spec := "wordDivides", apart := false, narrowed := true }
def WordDividesUptoSaid : Prop := wordDividesUptoRow.holds Try.pinned (OpenSpec.upto wordDividesSpec)

/-- 'panicroadkeep.WordShifts', WHERE WHAT IT READS IS OF BULK AT MOST 1048576: true; the input reads as it did. -/
def wordShiftsUptoRow : OpenClaim := { program := "ytjebfdmniebcnaa", sum := "1a1d4e3cff80d7c548566e442df0947047fc4a302c7606a8d2f8306e9fbff07b", func := "panicroad/panicroadkeep.WordShifts", spec := "wordShifts", apart := false, narrowed := true }
def WordShiftsUptoSaid : Prop := wordShiftsUptoRow.holds Try.pinned (OpenSpec.upto wordShiftsSpec)

/-- 'panicroadkeep.WordBits', WHERE WHAT IT READS IS OF BULK AT MOST 1048576: true; the input reads as it did. -/
def wordBitsUptoRow : OpenClaim := { program := "ytjebfdmniebcnaa", sum := "1a1d4e3cff80d7c548566e442df0947047fc4a302c7606a8d2f8306e9fbff07b", func := "panicroad/panicroadkeep.WordBits", spec := "wordBits", apart := false, narrowed := true }
def WordBitsUptoSaid : Prop := wordBitsUptoRow.holds Try.pinned (OpenSpec.upto wordBitsSpec)

/-- 'panicroadkeep.WordBack', WHERE WHAT IT READS IS OF BULK AT MOST 1048576: true; the input reads as it did. -/
def wordBackUptoRow : OpenClaim := { program := "ytjebfdmniebcnaa", sum := "1a1d4e3cff80d7c548566e442df0947047fc4a302c7606a8d2f8306e9fbff07b", func := "panicroad/panicroadkeep.WordBack", spec := "wordBack", apart := false, narrowed := true }
def WordBackUptoSaid : Prop := wordBackUptoRow.holds Try.pinned (OpenSpec.upto wordBackSpec)

/-- 'panicroadkeep.WordOnly', WHERE WHAT IT READS IS OF BULK AT MOST 1048576: true; the input reads as it did. -/
def wordOnlyUptoRow : OpenClaim := { program := "ytjebfdmniebcnaa", sum := "1a1d4e3cff80d7c548566e442df0947047fc4a302c7606a8d2f8306e9fbff07b", func := "panicroad/panicroadkeep.WordOnly", spec := "wordOnly", apart := false, narrowed := true }
def WordOnlyUptoSaid : Prop := wordOnlyUptoRow.holds Try.pinned (OpenSpec.upto wordOnlySpec)

/-- 'panicroadkeep.FaultPieces', WHERE WHAT IT READS IS OF BULK AT MOST 1048576: true; the input reads as it did. -/
def faultPiecesUptoRow : OpenClaim := { program := "ytjebfdmniebcnaa", sum := "1a1d4e3cff80d7c548566e442df0947047fc4a302c7606a8d2f8306e9fbff07b", func := "panicroad/panicroadkeep.FaultPieces", spec := "faultPieces", apart := false, narrowed := true }
def FaultPiecesUptoSaid : Prop := faultPiecesUptoRow.holds Try.pinned (OpenSpec.upto faultPiecesSpec)

/-- 'panicroadkeep.FaultWithin', WHERE WHAT IT READS IS OF BULK AT MOST 1048576: true; the input reads as it did. -/
def faultWithinUptoRow : OpenClaim := { program := "ytjebfdmniebcnaa", sum := "1a1d4e3cff80d7c548566e442df0947047fc4a302c7606a8d2f8306e9fbff07b", func := "panicroad/panicroadkeep.FaultWithin", spec := "faultWithin", apart := false, narrowed := true }
def FaultWithinUptoSaid : Prop := faultWithinUptoRow.holds Try.pinned (OpenSpec.upto faultWithinSpec)

/-- 'panicroadkeep.FaultTells', WHERE WHAT IT READS IS OF BULK AT MOST 1048576: true; the input reads as it did. -/
def faultTellsUptoRow : OpenClaim := { program := "ytjebfdmniebcnaa", sum := "1a1d4e3cff80d7c548566e442df0947047fc4a302c7606a8d2f8306e9fbff07b", func := "panicroad/panicroadkeep.FaultTells", spec := "faultTells", apart := false, narrowed := true }
def FaultTellsUptoSaid : Prop := faultTellsUptoRow.holds Try.pinned (OpenSpec.upto faultTellsSpec)

/-- 'panicroadkeep.ReportStatus', WHERE WHAT IT READS IS OF BULK AT MOST 1048576: true; the input reads as it did. -/
def reportStatusUptoRow : OpenClaim := { program := "ytjebfdmniebcnaa", sum := "1a1d4e3cff80d7c548566e442df0947047fc4a302c7606a8d2f8306e9fbff07b", func := "panicroad/panicroadkeep.ReportStatus", spec := "reportStatus", apart := false, narrowed := true }
def ReportStatusUptoSaid : Prop := reportStatusUptoRow.holds Try.pinned (OpenSpec.upto reportStatusSpec)

end Rows
end Go.Proofs.Ytjebfdmniebcnaa
