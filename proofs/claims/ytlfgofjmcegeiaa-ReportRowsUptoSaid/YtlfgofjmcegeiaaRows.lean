/-
  No cell of these rows narrows 'for every input' (looked for: loops, veiled, ifaces, maps, wideKeys, modest, calm, conditions, laid).
  DERIVED. THE GIVEN ROWS OF THIS SEAT. 11 by the template 'for every input the law returns true; each argument reads behind the call as it read before'; 0 by the template 'total and deterministic' (their statements: YtlfgofjmcegeiaaTotals.lean).
  GIVEN WITH THE SEED: the statements are not yours to turn. If you find one false, say at which input.
  Laid BY PROGRAM, IN A SANDBOX (cutbox-rows.mjs): the forced cells as the released guide's own fill.sh prints them over the translation d4545858f38b97bc… (all of the seat's roots in one cut). By AI agents, Wed Nov 11 2026. No macro, syntax, notation, axiom, sorry.
-/
import Derived.Test.YtlfgofjmcegeiaaChecked
import GoSem.Claim
import GoSem.ClaimJoined
import GoSem.ClaimMapViews
import Derived.JoinedTies
import Derived.KernelRfl
namespace Go.Proofs.Ytlfgofjmcegeiaa
/- THE CELL 'sum', in the pinned program and in every row, IS THE sha256 OF THE DUMP (.gsa) THAT YtlfgofjmcegeiaaProg.lean LOADS. Nothing in Lean hashes anything: it is a label: what it is worth is what the hold of that sum in a sandbox is worth. -/
noncomputable def Try.pinned : Pinned := { name := "ytlfgofjmcegeiaa", sum := "d4545858f38b97bc671400b34277f4e2350fb5b3e26a7c04836626bb7c7279dc", checked := Try.checked }
namespace Rows
def none {H : Type} : Left H := { results := [], args := [] }

/-- 'panicroadkeep.ReportRows': WHATEVER THE INPUT: true; the input reads as it did. -/
def reportRowsSpec : ChangeSpec := { name := "reportRows", fn := fun _ => fun
  | [d] => { results := [.lit (.bool true)], args := [d] }
  | _ => none }
def reportRowsRow : OpenClaim := { program := "ytlfgofjmcegeiaa", sum := "d4545858f38b97bc671400b34277f4e2350fb5b3e26a7c04836626bb7c7279dc", func := "panicroad/panicroadkeep.ReportRows", spec := "reportRows", inPlace := ["internal/abi.NoEscape", "internal/bytealg.IndexByteString"], apart := false }
def ReportRowsSaid : Prop := reportRowsRow.holds Try.pinned (OpenSpec.ofChange reportRowsSpec)

/-- ITS FALSE NEIGHBOUR: 'it returns false'. Refute it at one input. -/
def reportRowsWrong : ChangeSpec := { name := "reportRows", fn := fun _ => fun
  | [d] => { results := [.lit (.bool false)], args := [d] }
  | _ => none }
def ReportRowsWrongFalsely : Prop := reportRowsRow.holds Try.pinned (OpenSpec.ofChange reportRowsWrong)

/-- 'panicroadkeep.ReportBack': WHATEVER THE INPUT: true; the input reads as it did. -/
def reportBackSpec : ChangeSpec := { name := "reportBack", fn := fun _ => fun
  | [d] => { results := [.lit (.bool true)], args := [d] }
  | _ => none }
def reportBackRow : OpenClaim := { program := "ytlfgofjmcegeiaa", sum := "d4545858f38b97bc671400b34277f4e2350fb5b3e26a7c04836626bb7c7279dc", func := "panicroad/panicroadkeep.ReportBack", spec := "reportBack", inPlace := ["internal/abi.NoEscape", "internal/bytealg.IndexByteString", "internal/bytealg.IndexString"], named := ["internal/bytealg.MaxLen"], apart := false }
def ReportBackSaid : Prop := reportBackRow.holds Try.pinned (OpenSpec.ofChange reportBackSpec)

/-- ITS FALSE NEIGHBOUR: 'it returns false'. Refute it at one input. -/
def reportBackWrong : ChangeSpec := { name := "reportBack", fn := fun _ => fun
  | [d] => { results := [.lit (.bool false)], args := [d] }
  | _ => none }
def ReportBackWrongFalsely : Prop := reportBackRow.holds Try.pinned (OpenSpec.ofChange reportBackWrong)

/-- 'panicroadkeep.ScanPlaces': WHATEVER THE INPUT: true; the input reads as it did. -/
def scanPlacesSpec : ChangeSpec := { name := "scanPlaces", fn := fun _ => fun
  | [d] => { results := [.lit (.bool true)], args := [d] }
  | _ => none }
def scanPlacesRow : OpenClaim := { program := "ytlfgofjmcegeiaa", sum := "d4545858f38b97bc671400b34277f4e2350fb5b3e26a7c04836626bb7c7279dc", func := "panicroad/panicroadkeep.ScanPlaces", spec := "scanPlaces", inPlace := ["internal/bytealg.IndexByteString"], unfollowed := true, recurses := true, apart := false }
def ScanPlacesSaid : Prop := scanPlacesRow.holds Try.pinned (OpenSpec.ofChange scanPlacesSpec)

/-- ITS FALSE NEIGHBOUR: 'it returns false'. Refute it at one input. -/
def scanPlacesWrong : ChangeSpec := { name := "scanPlaces", fn := fun _ => fun
  | [d] => { results := [.lit (.bool false)], args := [d] }
  | _ => none }
def ScanPlacesWrongFalsely : Prop := scanPlacesRow.holds Try.pinned (OpenSpec.ofChange scanPlacesWrong)

/-- 'panicroadkeep.ScanSpaces': WHATEVER THE INPUT: true; the input reads as it did. -/
def scanSpacesSpec : ChangeSpec := { name := "scanSpaces", fn := fun _ => fun
  | [d1, d2, d3] => { results := [.lit (.bool true)], args := [d1, d2, d3] }
  | _ => none }
def scanSpacesRow : OpenClaim := { program := "ytlfgofjmcegeiaa", sum := "d4545858f38b97bc671400b34277f4e2350fb5b3e26a7c04836626bb7c7279dc", func := "panicroad/panicroadkeep.ScanSpaces", spec := "scanSpaces", inPlace := ["internal/bytealg.IndexByteString"], unfollowed := true, recurses := true, apart := false }
def ScanSpacesSaid : Prop := scanSpacesRow.holds Try.pinned (OpenSpec.ofChange scanSpacesSpec)

/-- ITS FALSE NEIGHBOUR: 'it returns false'. Refute it at one input. -/
def scanSpacesWrong : ChangeSpec := { name := "scanSpaces", fn := fun _ => fun
  | [d1, d2, d3] => { results := [.lit (.bool false)], args := [d1, d2, d3] }
  | _ => none }
def ScanSpacesWrongFalsely : Prop := scanSpacesRow.holds Try.pinned (OpenSpec.ofChange scanSpacesWrong)

/-- 'panicroadkeep.ScanRemarks': WHATEVER THE INPUT: true; the input reads as it did. -/
def scanRemarksSpec : ChangeSpec := { name := "scanRemarks", fn := fun _ => fun
  | [d1, d2] => { results := [.lit (.bool true)], args := [d1, d2] }
  | _ => none }
def scanRemarksRow : OpenClaim := { program := "ytlfgofjmcegeiaa", sum := "d4545858f38b97bc671400b34277f4e2350fb5b3e26a7c04836626bb7c7279dc", func := "panicroad/panicroadkeep.ScanRemarks", spec := "scanRemarks", inPlace := ["internal/bytealg.IndexByteString"], unfollowed := true, recurses := true, apart := false }
def ScanRemarksSaid : Prop := scanRemarksRow.holds Try.pinned (OpenSpec.ofChange scanRemarksSpec)

/-- ITS FALSE NEIGHBOUR: 'it returns false'. Refute it at one input. -/
def scanRemarksWrong : ChangeSpec := { name := "scanRemarks", fn := fun _ => fun
  | [d1, d2] => { results := [.lit (.bool false)], args := [d1, d2] }
  | _ => none }
def ScanRemarksWrongFalsely : Prop := scanRemarksRow.holds Try.pinned (OpenSpec.ofChange scanRemarksWrong)

/-- 'panicroadkeep.ScanMemory': WHATEVER THE INPUT: true; the input reads as it did. -/
def scanMemorySpec : ChangeSpec := { name := "scanMemory", fn := fun _ => fun
  | [d] => { results := [.lit (.bool true)], args := [d] }
  | _ => none }
def scanMemoryRow : OpenClaim := { program := "ytlfgofjmcegeiaa", sum := "d4545858f38b97bc671400b34277f4e2350fb5b3e26a7c04836626bb7c7279dc", func := "panicroad/panicroadkeep.ScanMemory", spec := "scanMemory", inPlace := ["internal/bytealg.IndexByteString", "internal/abi.NoEscape"], unfollowed := true, recurses := true, apart := false }
def ScanMemorySaid : Prop := scanMemoryRow.holds Try.pinned (OpenSpec.ofChange scanMemorySpec)

/-- ITS FALSE NEIGHBOUR: 'it returns false'. Refute it at one input. -/
def scanMemoryWrong : ChangeSpec := { name := "scanMemory", fn := fun _ => fun
  | [d] => { results := [.lit (.bool false)], args := [d] }
  | _ => none }
def ScanMemoryWrongFalsely : Prop := scanMemoryRow.holds Try.pinned (OpenSpec.ofChange scanMemoryWrong)

/-- 'panicroadkeep.ScanBack': WHATEVER THE INPUT: true; the input reads as it did. -/
def scanBackSpec : ChangeSpec := { name := "scanBack", fn := fun _ => fun
  | [d] => { results := [.lit (.bool true)], args := [d] }
  | _ => none }
def scanBackRow : OpenClaim := { program := "ytlfgofjmcegeiaa", sum := "d4545858f38b97bc671400b34277f4e2350fb5b3e26a7c04836626bb7c7279dc", func := "panicroad/panicroadkeep.ScanBack", spec := "scanBack", inPlace := ["internal/bytealg.IndexByteString", "internal/abi.NoEscape"], unfollowed := true, recurses := true, apart := false }
def ScanBackSaid : Prop := scanBackRow.holds Try.pinned (OpenSpec.ofChange scanBackSpec)

/-- ITS FALSE NEIGHBOUR: 'it returns false'. Refute it at one input. -/
def scanBackWrong : ChangeSpec := { name := "scanBack", fn := fun _ => fun
  | [d] => { results := [.lit (.bool false)], args := [d] }
  | _ => none }
def ScanBackWrongFalsely : Prop := scanBackRow.holds Try.pinned (OpenSpec.ofChange scanBackWrong)

/-- 'panicroadkeep.ImageMemory': WHATEVER THE INPUT: true; the input reads as it did. -/
def imageMemorySpec : ChangeSpec := { name := "imageMemory", fn := fun _ => fun
  | [d1, d2, d3] => { results := [.lit (.bool true)], args := [d1, d2, d3] }
  | _ => none }
def imageMemoryRow : OpenClaim := { program := "ytlfgofjmcegeiaa", sum := "d4545858f38b97bc671400b34277f4e2350fb5b3e26a7c04836626bb7c7279dc", func := "panicroad/panicroadkeep.ImageMemory", spec := "imageMemory", inPlace := ["internal/bytealg.IndexByteString"], unfollowed := true, recurses := true, apart := false }
def ImageMemorySaid : Prop := imageMemoryRow.holds Try.pinned (OpenSpec.ofChange imageMemorySpec)

/-- ITS FALSE NEIGHBOUR: 'it returns false'. Refute it at one input. -/
def imageMemoryWrong : ChangeSpec := { name := "imageMemory", fn := fun _ => fun
  | [d1, d2, d3] => { results := [.lit (.bool false)], args := [d1, d2, d3] }
  | _ => none }
def ImageMemoryWrongFalsely : Prop := imageMemoryRow.holds Try.pinned (OpenSpec.ofChange imageMemoryWrong)

/-- 'panicroadkeep.ImageBack': WHATEVER THE INPUT: true; the input reads as it did. -/
def imageBackSpec : ChangeSpec := { name := "imageBack", fn := fun _ => fun
  | [d] => { results := [.lit (.bool true)], args := [d] }
  | _ => none }
def imageBackRow : OpenClaim := { program := "ytlfgofjmcegeiaa", sum := "d4545858f38b97bc671400b34277f4e2350fb5b3e26a7c04836626bb7c7279dc", func := "panicroad/panicroadkeep.ImageBack", spec := "imageBack", inPlace := ["internal/bytealg.IndexByteString"], unfollowed := true, recurses := true, apart := false }
def ImageBackSaid : Prop := imageBackRow.holds Try.pinned (OpenSpec.ofChange imageBackSpec)

/-- ITS FALSE NEIGHBOUR: 'it returns false'. Refute it at one input. -/
def imageBackWrong : ChangeSpec := { name := "imageBack", fn := fun _ => fun
  | [d] => { results := [.lit (.bool false)], args := [d] }
  | _ => none }
def ImageBackWrongFalsely : Prop := imageBackRow.holds Try.pinned (OpenSpec.ofChange imageBackWrong)

/-- 'panicroadkeep.ImageOnly': WHATEVER THE INPUT: true; the input reads as it did. -/
def imageOnlySpec : ChangeSpec := { name := "imageOnly", fn := fun _ => fun
  | [d] => { results := [.lit (.bool true)], args := [d] }
  | _ => none }
def imageOnlyRow : OpenClaim := { program := "ytlfgofjmcegeiaa", sum := "d4545858f38b97bc671400b34277f4e2350fb5b3e26a7c04836626bb7c7279dc", func := "panicroad/panicroadkeep.ImageOnly", spec := "imageOnly", inPlace := ["internal/bytealg.IndexByteString"], unfollowed := true, recurses := true, apart := false }
def ImageOnlySaid : Prop := imageOnlyRow.holds Try.pinned (OpenSpec.ofChange imageOnlySpec)

/-- ITS FALSE NEIGHBOUR: 'it returns false'. Refute it at one input. -/
def imageOnlyWrong : ChangeSpec := { name := "imageOnly", fn := fun _ => fun
  | [d] => { results := [.lit (.bool false)], args := [d] }
  | _ => none }
def ImageOnlyWrongFalsely : Prop := imageOnlyRow.holds Try.pinned (OpenSpec.ofChange imageOnlyWrong)

/-- 'panicroadkeep.ImageTurned': WHATEVER THE INPUT: true; the input reads as it did. -/
def imageTurnedSpec : ChangeSpec := { name := "imageTurned", fn := fun _ => fun
  | [d1, d2, d3] => { results := [.lit (.bool true)], args := [d1, d2, d3] }
  | _ => none }
def imageTurnedRow : OpenClaim := { program := "ytlfgofjmcegeiaa", sum := "d4545858f38b97bc671400b34277f4e2350fb5b3e26a7c04836626bb7c7279dc", func := "panicroad/panicroadkeep.ImageTurned", spec := "imageTurned", inPlace := ["internal/bytealg.IndexByteString"], unfollowed := true, recurses := true, apart := false }
def ImageTurnedSaid : Prop := imageTurnedRow.holds Try.pinned (OpenSpec.ofChange imageTurnedSpec)

/-- ITS FALSE NEIGHBOUR: 'it returns false'. Refute it at one input. -/
def imageTurnedWrong : ChangeSpec := { name := "imageTurned", fn := fun _ => fun
  | [d1, d2, d3] => { results := [.lit (.bool false)], args := [d1, d2, d3] }
  | _ => none }
def ImageTurnedWrongFalsely : Prop := imageTurnedRow.holds Try.pinned (OpenSpec.ofChange imageTurnedWrong)

/- THE SECOND FORM. 'bulk': how many values and letters a reading holds, each counted each time it is reached (what is shared counts as often as it is met; a slice's spare places count too). A statement '..UptoSaid' is the law's where the arguments, and the package variables that the reading takes, are together of bulk at most 1048576: NARROWER than '..Said'. Prove '..Said' where nothing that the law and all that it calls make is longer than what came in: it says more and counts as full. Else prove '..UptoSaid'. A law counts once. -/
mutual
def uptoBulk {H : Type} : DataW H → Nat
  | .lit (.string bytes) => bytes.length + 1
  | .lit _ => 1
  | .nil => 1
  | .ptr d => uptoBulk d + 1
  | .slice elems spare => uptoBulkAll elems + uptoBulkAll spare + 1
  | .agg parts => uptoBulkAll parts + 1
  | .iface _ d => uptoBulk d + 1
  | .map entries => uptoBulkEntries entries + 1
  | .held _ => 1
def uptoBulkAll {H : Type} : List (DataW H) → Nat
  | [] => 0
  | d :: r => uptoBulk d + uptoBulkAll r
def uptoBulkEntries {H : Type} : List (Lit × DataW H) → Nat
  | [] => 0
  | x :: r => uptoBulkEntry x + uptoBulkEntries r
def uptoBulkEntry {H : Type} : Lit × DataW H → Nat
  | (.string bytes, d) => bytes.length + uptoBulk d + 1
  | (_, d) => uptoBulk d + 1
 end
def uptoSmall : (H : Type) → List (DataW H) → Bool := fun _ ds => decide (uptoBulkAll ds ≤ 1048576)
def OpenSpec.upto (s : _root_.Go.ChangeSpec) : _root_.Go.OpenSpec := { _root_.Go.OpenSpec.ofChange s with cond := some uptoSmall }

/-- 'panicroadkeep.ReportRows', WHERE WHAT IT READS IS OF BULK AT MOST 1048576: true; the input reads as it did. -/
def reportRowsUptoRow : OpenClaim := { program := "ytlfgofjmcegeiaa", sum := "d4545858f38b97bc671400b34277f4e2350fb5b3e26a7c04836626bb7c7279dc", func := "panicroad/panicroadkeep.ReportRows", spec := "reportRows", inPlace := ["internal/abi.NoEscape", "internal/bytealg.IndexByteString"], apart := false, narrowed := true }
def ReportRowsUptoSaid : Prop := reportRowsUptoRow.holds Try.pinned (OpenSpec.upto reportRowsSpec)

/-- 'panicroadkeep.ReportBack', WHERE WHAT IT READS IS OF BULK AT MOST 1048576: true; the input reads as it did. -/
def reportBackUptoRow : OpenClaim := { program := "ytlfgofjmcegeiaa", sum := "d4545858f38b97bc671400b34277f4e2350fb5b3e26a7c04836626bb7c7279dc", func := "panicroad/panicroadkeep.ReportBack", spec := "reportBack", inPlace := ["internal/abi.NoEscape", "internal/bytealg.IndexByteString", "internal/bytealg.IndexString"], named := ["internal/bytealg.MaxLen"], apart := false, narrowed := true }
def ReportBackUptoSaid : Prop := reportBackUptoRow.holds Try.pinned (OpenSpec.upto reportBackSpec)

/-- 'panicroadkeep.ScanPlaces', WHERE WHAT IT READS IS OF BULK AT MOST 1048576: true; the input reads as it did. -/
def scanPlacesUptoRow : OpenClaim := { program := "ytlfgofjmcegeiaa", sum := "d4545858f38b97bc671400b34277f4e2350fb5b3e26a7c04836626bb7c7279dc", func := "panicroad/panicroadkeep.ScanPlaces", spec := "scanPlaces", inPlace := ["internal/bytealg.IndexByteString"], unfollowed := true, recurses := true, apart := false, narrowed := true }
def ScanPlacesUptoSaid : Prop := scanPlacesUptoRow.holds Try.pinned (OpenSpec.upto scanPlacesSpec)

/-- 'panicroadkeep.ScanSpaces', WHERE WHAT IT READS IS OF BULK AT MOST 1048576: true; the input reads as it did. -/
def scanSpacesUptoRow : OpenClaim := { program := "ytlfgofjmcegeiaa", sum := "d4545858f38b97bc671400b34277f4e2350fb5b3e26a7c04836626bb7c7279dc", func := "panicroad/panicroadkeep.ScanSpaces", spec := "scanSpaces", inPlace := ["internal/bytealg.IndexByteString"], unfollowed := true, recurses := true, apart := false, narrowed := true }
def ScanSpacesUptoSaid : Prop := scanSpacesUptoRow.holds Try.pinned (OpenSpec.upto scanSpacesSpec)

/-- 'panicroadkeep.ScanRemarks', WHERE WHAT IT READS IS OF BULK AT MOST 1048576: true; the input reads as it did. -/
def scanRemarksUptoRow : OpenClaim := { program := "ytlfgofjmcegeiaa", sum := "d4545858f38b97bc671400b34277f4e2350fb5b3e26a7c04836626bb7c7279dc", func := "panicroad/panicroadkeep.ScanRemarks", spec := "scanRemarks", inPlace := ["internal/bytealg.IndexByteString"], unfollowed := true, recurses := true, apart := false, narrowed := true }
def ScanRemarksUptoSaid : Prop := scanRemarksUptoRow.holds Try.pinned (OpenSpec.upto scanRemarksSpec)

/-- 'panicroadkeep.ScanMemory', WHERE WHAT IT READS IS OF BULK AT MOST 1048576: true; the input reads as it did. -/
def scanMemoryUptoRow : OpenClaim := { program := "ytlfgofjmcegeiaa", sum := "d4545858f38b97bc671400b34277f4e2350fb5b3e26a7c04836626bb7c7279dc", func := "panicroad/panicroadkeep.ScanMemory", spec := "scanMemory", inPlace := ["internal/bytealg.IndexByteString", "internal/abi.NoEscape"], unfollowed := true, recurses := true, apart := false, narrowed := true }
def ScanMemoryUptoSaid : Prop := scanMemoryUptoRow.holds Try.pinned (OpenSpec.upto scanMemorySpec)

/-- 'panicroadkeep.ScanBack', WHERE WHAT IT READS IS OF BULK AT MOST 1048576: true; the input reads as it did. -/
def scanBackUptoRow : OpenClaim := { program := "ytlfgofjmcegeiaa", sum := "d4545858f38b97bc671400b34277f4e2350fb5b3e26a7c04836626bb7c7279dc", func := "panicroad/panicroadkeep.ScanBack", spec := "scanBack", inPlace := ["internal/bytealg.IndexByteString", "internal/abi.NoEscape"], unfollowed := true, recurses := true, apart := false, narrowed := true }
def ScanBackUptoSaid : Prop := scanBackUptoRow.holds Try.pinned (OpenSpec.upto scanBackSpec)

/-- 'panicroadkeep.ImageMemory', WHERE WHAT IT READS IS OF BULK AT MOST 1048576: true; the input reads as it did. -/
def imageMemoryUptoRow : OpenClaim := { program := "ytlfgofjmcegeiaa", sum := "d4545858f38b97bc671400b34277f4e2350fb5b3e26a7c04836626bb7c7279dc", func := "panicroad/panicroadkeep.ImageMemory", spec := "imageMemory", inPlace := ["internal/bytealg.IndexByteString"], unfollowed := true, recurses := true, apart := false, narrowed := true }
def ImageMemoryUptoSaid : Prop := imageMemoryUptoRow.holds Try.pinned (OpenSpec.upto imageMemorySpec)

/-- 'panicroadkeep.ImageBack', WHERE WHAT IT READS IS OF BULK AT MOST 1048576: true; the input reads as it did. -/
def imageBackUptoRow : OpenClaim := { program := "ytlfgofjmcegeiaa", sum := "d4545858f38b97bc671400b34277f4e2350fb5b3e26a7c04836626bb7c7279dc", func := "panicroad/panicroadkeep.ImageBack", spec := "imageBack", inPlace := ["internal/bytealg.IndexByteString"], unfollowed := true, recurses := true, apart := false, narrowed := true }
def ImageBackUptoSaid : Prop := imageBackUptoRow.holds Try.pinned (OpenSpec.upto imageBackSpec)

/-- 'panicroadkeep.ImageOnly', WHERE WHAT IT READS IS OF BULK AT MOST 1048576: true; the input reads as it did. -/
def imageOnlyUptoRow : OpenClaim := { program := "ytlfgofjmcegeiaa", sum := "d4545858f38b97bc671400b34277f4e2350fb5b3e26a7c04836626bb7c7279dc", func := "panicroad/panicroadkeep.ImageOnly", spec := "imageOnly", inPlace := ["internal/bytealg.IndexByteString"], unfollowed := true, recurses := true, apart := false, narrowed := true }
def ImageOnlyUptoSaid : Prop := imageOnlyUptoRow.holds Try.pinned (OpenSpec.upto imageOnlySpec)

/-- 'panicroadkeep.ImageTurned', WHERE WHAT IT READS IS OF BULK AT MOST 1048576: true; the input reads as it did. -/
def imageTurnedUptoRow : OpenClaim := { program := "ytlfgofjmcegeiaa", sum := "d4545858f38b97bc671400b34277f4e2350fb5b3e26a7c04836626bb7c7279dc", func := "panicroad/panicroadkeep.ImageTurned", spec := "imageTurned", inPlace := ["internal/bytealg.IndexByteString"], unfollowed := true, recurses := true, apart := false, narrowed := true }
def ImageTurnedUptoSaid : Prop := imageTurnedUptoRow.holds Try.pinned (OpenSpec.upto imageTurnedSpec)

end Rows
end Go.Proofs.Ytlfgofjmcegeiaa
