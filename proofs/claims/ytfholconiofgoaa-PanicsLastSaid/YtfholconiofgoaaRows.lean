/-
  No cell of these rows narrows 'for every input' (looked for: loops, veiled, ifaces, maps, wideKeys, modest, calm, conditions, laid).
  DERIVED. THE GIVEN ROWS OF THIS SEAT. 9 by the template 'for every input the law returns true; each argument reads behind the call as it read before'; 0 by the template 'total and deterministic' (their statements: YtfholconiofgoaaTotals.lean).
  GIVEN WITH THE SEED: the statements are not yours to turn. If you find one false, say at which input.
  Laid BY PROGRAM, IN A SANDBOX (cutbox-rows.mjs): the forced cells as the released guide's own fill.sh prints them over the translation f3912e0f003e7a26… (all of the seat's roots in one cut). By AI agents, Wed Nov 11 2026. No macro, syntax, notation, axiom, sorry.
-/
import Derived.Test.YtfholconiofgoaaChecked
import GoSem.Claim
import GoSem.ClaimJoined
import GoSem.ClaimMapViews
import Derived.JoinedTies
import Derived.KernelRfl
namespace Go.Proofs.Ytfholconiofgoaa
/- THE CELL 'sum', in the pinned program and in every row, IS THE sha256 OF THE DUMP (.gsa) THAT YtfholconiofgoaaProg.lean LOADS. Nothing in Lean hashes anything: it is a label: what it is worth is what the hold of that sum in a sandbox is worth. -/
noncomputable def Try.pinned : Pinned := { name := "ytfholconiofgoaa", sum := "f3912e0f003e7a26282db42e99029557ce1b99701e9081b1df826cfa514e66e7", checked := Try.checked }
namespace Rows
def none {H : Type} : Left H := { results := [], args := [] }

/-- 'panicroadkeep.PanicsMemory': WHATEVER THE INPUT: true; the input reads as it did. -/
def panicsMemorySpec : ChangeSpec := { name := "panicsMemory", fn := fun _ => fun
  | [d1, d2] => { results := [.lit (.bool true)], args := [d1, d2] }
  | _ => none }
def panicsMemoryRow : OpenClaim := { program := "ytfholconiofgoaa", sum := "f3912e0f003e7a26282db42e99029557ce1b99701e9081b1df826cfa514e66e7", func := "panicroad/panicroadkeep.PanicsMemory", spec := "panicsMemory", apart := false }
def PanicsMemorySaid : Prop := panicsMemoryRow.holds Try.pinned (OpenSpec.ofChange panicsMemorySpec)

/-- ITS FALSE NEIGHBOUR: 'it returns false'. Refute it at one input. -/
def panicsMemoryWrong : ChangeSpec := { name := "panicsMemory", fn := fun _ => fun
  | [d1, d2] => { results := [.lit (.bool false)], args := [d1, d2] }
  | _ => none }
def PanicsMemoryWrongFalsely : Prop := panicsMemoryRow.holds Try.pinned (OpenSpec.ofChange panicsMemoryWrong)

/-- 'panicroadkeep.PanicsLast': WHATEVER THE INPUT: true; the input reads as it did. -/
def panicsLastSpec : ChangeSpec := { name := "panicsLast", fn := fun _ => fun
  | [d] => { results := [.lit (.bool true)], args := [d] }
  | _ => none }
def panicsLastRow : OpenClaim := { program := "ytfholconiofgoaa", sum := "f3912e0f003e7a26282db42e99029557ce1b99701e9081b1df826cfa514e66e7", func := "panicroad/panicroadkeep.PanicsLast", spec := "panicsLast", apart := false }
def PanicsLastSaid : Prop := panicsLastRow.holds Try.pinned (OpenSpec.ofChange panicsLastSpec)

/-- ITS FALSE NEIGHBOUR: 'it returns false'. Refute it at one input. -/
def panicsLastWrong : ChangeSpec := { name := "panicsLast", fn := fun _ => fun
  | [d] => { results := [.lit (.bool false)], args := [d] }
  | _ => none }
def PanicsLastWrongFalsely : Prop := panicsLastRow.holds Try.pinned (OpenSpec.ofChange panicsLastWrong)

/-- 'panicroadkeep.PanicsQuiet': WHATEVER THE INPUT: true; the input reads as it did. -/
def panicsQuietSpec : ChangeSpec := { name := "panicsQuiet", fn := fun _ => fun
  | [d] => { results := [.lit (.bool true)], args := [d] }
  | _ => none }
def panicsQuietRow : OpenClaim := { program := "ytfholconiofgoaa", sum := "f3912e0f003e7a26282db42e99029557ce1b99701e9081b1df826cfa514e66e7", func := "panicroad/panicroadkeep.PanicsQuiet", spec := "panicsQuiet", apart := false }
def PanicsQuietSaid : Prop := panicsQuietRow.holds Try.pinned (OpenSpec.ofChange panicsQuietSpec)

/-- ITS FALSE NEIGHBOUR: 'it returns false'. Refute it at one input. -/
def panicsQuietWrong : ChangeSpec := { name := "panicsQuiet", fn := fun _ => fun
  | [d] => { results := [.lit (.bool false)], args := [d] }
  | _ => none }
def PanicsQuietWrongFalsely : Prop := panicsQuietRow.holds Try.pinned (OpenSpec.ofChange panicsQuietWrong)

/-- 'panicroadkeep.PanicsExit': WHATEVER THE INPUT: true; the input reads as it did. -/
def panicsExitSpec : ChangeSpec := { name := "panicsExit", fn := fun _ => fun
  | [d1, d2] => { results := [.lit (.bool true)], args := [d1, d2] }
  | _ => none }
def panicsExitRow : OpenClaim := { program := "ytfholconiofgoaa", sum := "f3912e0f003e7a26282db42e99029557ce1b99701e9081b1df826cfa514e66e7", func := "panicroad/panicroadkeep.PanicsExit", spec := "panicsExit", apart := false }
def PanicsExitSaid : Prop := panicsExitRow.holds Try.pinned (OpenSpec.ofChange panicsExitSpec)

/-- ITS FALSE NEIGHBOUR: 'it returns false'. Refute it at one input. -/
def panicsExitWrong : ChangeSpec := { name := "panicsExit", fn := fun _ => fun
  | [d1, d2] => { results := [.lit (.bool false)], args := [d1, d2] }
  | _ => none }
def PanicsExitWrongFalsely : Prop := panicsExitRow.holds Try.pinned (OpenSpec.ofChange panicsExitWrong)

/-- 'panicroadkeep.PanicsCrash': WHATEVER THE INPUT: true; the input reads as it did. -/
def panicsCrashSpec : ChangeSpec := { name := "panicsCrash", fn := fun _ => fun
  | [d] => { results := [.lit (.bool true)], args := [d] }
  | _ => none }
def panicsCrashRow : OpenClaim := { program := "ytfholconiofgoaa", sum := "f3912e0f003e7a26282db42e99029557ce1b99701e9081b1df826cfa514e66e7", func := "panicroad/panicroadkeep.PanicsCrash", spec := "panicsCrash", apart := false }
def PanicsCrashSaid : Prop := panicsCrashRow.holds Try.pinned (OpenSpec.ofChange panicsCrashSpec)

/-- ITS FALSE NEIGHBOUR: 'it returns false'. Refute it at one input. -/
def panicsCrashWrong : ChangeSpec := { name := "panicsCrash", fn := fun _ => fun
  | [d] => { results := [.lit (.bool false)], args := [d] }
  | _ => none }
def PanicsCrashWrongFalsely : Prop := panicsCrashRow.holds Try.pinned (OpenSpec.ofChange panicsCrashWrong)

/-- 'panicroadkeep.PanicsFlight': WHATEVER THE INPUT: true; the input reads as it did. -/
def panicsFlightSpec : ChangeSpec := { name := "panicsFlight", fn := fun _ => fun
  | [d] => { results := [.lit (.bool true)], args := [d] }
  | _ => none }
def panicsFlightRow : OpenClaim := { program := "ytfholconiofgoaa", sum := "f3912e0f003e7a26282db42e99029557ce1b99701e9081b1df826cfa514e66e7", func := "panicroad/panicroadkeep.PanicsFlight", spec := "panicsFlight", apart := false }
def PanicsFlightSaid : Prop := panicsFlightRow.holds Try.pinned (OpenSpec.ofChange panicsFlightSpec)

/-- ITS FALSE NEIGHBOUR: 'it returns false'. Refute it at one input. -/
def panicsFlightWrong : ChangeSpec := { name := "panicsFlight", fn := fun _ => fun
  | [d] => { results := [.lit (.bool false)], args := [d] }
  | _ => none }
def PanicsFlightWrongFalsely : Prop := panicsFlightRow.holds Try.pinned (OpenSpec.ofChange panicsFlightWrong)

/-- 'panicroadkeep.PanicsCut': WHATEVER THE INPUT: true; the input reads as it did. -/
def panicsCutSpec : ChangeSpec := { name := "panicsCut", fn := fun _ => fun
  | [d] => { results := [.lit (.bool true)], args := [d] }
  | _ => none }
def panicsCutRow : OpenClaim := { program := "ytfholconiofgoaa", sum := "f3912e0f003e7a26282db42e99029557ce1b99701e9081b1df826cfa514e66e7", func := "panicroad/panicroadkeep.PanicsCut", spec := "panicsCut", apart := false }
def PanicsCutSaid : Prop := panicsCutRow.holds Try.pinned (OpenSpec.ofChange panicsCutSpec)

/-- ITS FALSE NEIGHBOUR: 'it returns false'. Refute it at one input. -/
def panicsCutWrong : ChangeSpec := { name := "panicsCut", fn := fun _ => fun
  | [d] => { results := [.lit (.bool false)], args := [d] }
  | _ => none }
def PanicsCutWrongFalsely : Prop := panicsCutRow.holds Try.pinned (OpenSpec.ofChange panicsCutWrong)

/-- 'panicroadkeep.PanicsDirect': WHATEVER THE INPUT: true; the input reads as it did. -/
def panicsDirectSpec : ChangeSpec := { name := "panicsDirect", fn := fun _ => fun
  | [d] => { results := [.lit (.bool true)], args := [d] }
  | _ => none }
def panicsDirectRow : OpenClaim := { program := "ytfholconiofgoaa", sum := "f3912e0f003e7a26282db42e99029557ce1b99701e9081b1df826cfa514e66e7", func := "panicroad/panicroadkeep.PanicsDirect", spec := "panicsDirect", apart := false }
def PanicsDirectSaid : Prop := panicsDirectRow.holds Try.pinned (OpenSpec.ofChange panicsDirectSpec)

/-- ITS FALSE NEIGHBOUR: 'it returns false'. Refute it at one input. -/
def panicsDirectWrong : ChangeSpec := { name := "panicsDirect", fn := fun _ => fun
  | [d] => { results := [.lit (.bool false)], args := [d] }
  | _ => none }
def PanicsDirectWrongFalsely : Prop := panicsDirectRow.holds Try.pinned (OpenSpec.ofChange panicsDirectWrong)

/-- 'panicroadkeep.ReportBack': WHATEVER THE INPUT: true; the input reads as it did. -/
def reportBackSpec : ChangeSpec := { name := "reportBack", fn := fun _ => fun
  | [d] => { results := [.lit (.bool true)], args := [d] }
  | _ => none }
def reportBackRow : OpenClaim := { program := "ytfholconiofgoaa", sum := "f3912e0f003e7a26282db42e99029557ce1b99701e9081b1df826cfa514e66e7", func := "panicroad/panicroadkeep.ReportBack", spec := "reportBack", inPlace := ["internal/abi.NoEscape", "internal/bytealg.IndexByteString", "internal/bytealg.IndexString"], named := ["internal/bytealg.MaxLen"], apart := false }
def ReportBackSaid : Prop := reportBackRow.holds Try.pinned (OpenSpec.ofChange reportBackSpec)

/-- ITS FALSE NEIGHBOUR: 'it returns false'. Refute it at one input. -/
def reportBackWrong : ChangeSpec := { name := "reportBack", fn := fun _ => fun
  | [d] => { results := [.lit (.bool false)], args := [d] }
  | _ => none }
def ReportBackWrongFalsely : Prop := reportBackRow.holds Try.pinned (OpenSpec.ofChange reportBackWrong)

/- THE SECOND FORM. 'bulk': how many values and letters a reading holds, each counted each time it is reached (what is shared counts as often as it is met; a slice's spare places count too). A statement '..UptoSaid' is the law's where the arguments, and the package variables that the reading takes, are together of bulk at most 1048576: NARROWER than '..Said'. Prove '..Said' where nothing that the law and all that it calls make is longer than what came in: it says more and counts as full. Else prove '..UptoSaid'. A law counts once. -/
mutual
def uptoBulk {H : Type} : DataW H → Nat
  | .lit (.string bytes) => bytes.length + 1
  | .lit _ => 1
  | .nil => 1
  | .ptr d => uptoBulk d + 1
  | .slice elems spare => uptoBulkAll elems + uptoBulkAll spare + 1
  | .agg parts => uptoBulkAll parts + 1
  | .iface _ d => uptoBulk d + 1
  | .map entries => uptoBulkEntries entries + 1
  | .held _ => 1
def uptoBulkAll {H : Type} : List (DataW H) → Nat
  | [] => 0
  | d :: r => uptoBulk d + uptoBulkAll r
def uptoBulkEntries {H : Type} : List (Lit × DataW H) → Nat
  | [] => 0
  | x :: r => uptoBulkEntry x + uptoBulkEntries r
def uptoBulkEntry {H : Type} : Lit × DataW H → Nat
  | (.string bytes, d) => bytes.length + uptoBulk d + 1
  | (_, d) => uptoBulk d + 1
 end
def uptoSmall : (H : Type) → List (DataW H) → Bool := fun _ ds => decide (uptoBulkAll ds ≤ 1048576)
def OpenSpec.upto (s : _root_.Go.ChangeSpec) : _root_.Go.OpenSpec := { _root_.Go.OpenSpec.ofChange s with cond := some uptoSmall }

/-- 'panicroadkeep.PanicsMemory', WHERE WHAT IT READS IS OF BULK AT MOST 1048576: true; the input reads as it did. -/
def panicsMemoryUptoRow : OpenClaim := { program := "ytfholconiofgoaa", sum := "f3912e0f003e7a26282db42e99029557ce1b99701e9081b1df826cfa514e66e7", func := "panicroad/panicroadkeep.PanicsMemory", spec := "panicsMemory", apart := false, narrowed := true }
def PanicsMemoryUptoSaid : Prop := panicsMemoryUptoRow.holds Try.pinned (OpenSpec.upto panicsMemorySpec)

/-- 'panicroadkeep.PanicsLast', WHERE WHAT IT READS IS OF BULK AT MOST 1048576: true; the input reads as it did. -/
def panicsLastUptoRow : OpenClaim := { program := "ytfholconiofgoaa", sum := "f3912e0f003e7a26282db42e99029557ce1b99701e9081b1df826cfa514e66e7", func := "panicroad/panicroadkeep.PanicsLast", spec := "panicsLast", apart := false, narrowed := true }
def PanicsLastUptoSaid : Prop := panicsLastUptoRow.holds Try.pinned (OpenSpec.upto panicsLastSpec)

/-- 'panicroadkeep.PanicsQuiet', WHERE WHAT IT READS IS OF BULK AT MOST 1048576: true; the input reads as it did. -/
def panicsQuietUptoRow : OpenClaim := { program := "ytfholconiofgoaa", sum := "f3912e0f003e7a26282db42e99029557ce1b99701e9081b1df826cfa514e66e7", func := "panicroad/panicroadkeep.PanicsQuiet", spec := "panicsQuiet", apart := false, narrowed := true }
def PanicsQuietUptoSaid : Prop := panicsQuietUptoRow.holds Try.pinned (OpenSpec.upto panicsQuietSpec)

/-- 'panicroadkeep.PanicsExit', WHERE WHAT IT READS IS OF BULK AT MOST 1048576: true; the input reads as it did. -/
def panicsExitUptoRow : OpenClaim := { program := "ytfholconiofgoaa", sum := "f3912e0f003e7a26282db42e99029557ce1b99701e9081b1df826cfa514e66e7", func := "panicroad/panicroadkeep.PanicsExit", spec := "panicsExit", apart := false, narrowed := true }
def PanicsExitUptoSaid : Prop := panicsExitUptoRow.holds Try.pinned (OpenSpec.upto panicsExitSpec)

/-- 'panicroadkeep.PanicsCrash', WHERE WHAT IT READS IS OF BULK AT MOST 1048576: true; the input reads as it did. -/
def panicsCrashUptoRow : OpenClaim := { program := "ytfholconiofgoaa", sum := "f3912e0f003e7a26282db42e99029557ce1b99701e9081b1df826cfa514e66e7", func := "panicroad/panicroadkeep.PanicsCrash", spec := "panicsCrash", apart := false, narrowed := true }
def PanicsCrashUptoSaid : Prop := panicsCrashUptoRow.holds Try.pinned (OpenSpec.upto panicsCrashSpec)

/-- 'panicroadkeep.PanicsFlight', WHERE WHAT IT READS IS OF BULK AT MOST 1048576: true; the input reads as it did. -/
def panicsFlightUptoRow : OpenClaim := { program := "ytfholconiofgoaa", sum := "f3912e0f003e7a26282db42e99029557ce1b99701e9081b1df826cfa514e66e7", func := "panicroad/panicroadkeep.PanicsFlight", spec := "panicsFlight", apart := false, narrowed := true }
def PanicsFlightUptoSaid : Prop := panicsFlightUptoRow.holds Try.pinned (OpenSpec.upto panicsFlightSpec)

/-- 'panicroadkeep.PanicsCut', WHERE WHAT IT READS IS OF BULK AT MOST 1048576: true; the input reads as it did. -/
def panicsCutUptoRow : OpenClaim := { program := "ytfholconiofgoaa", sum := "f3912e0f003e7a26282db42e99029557ce1b99701e9081b1df826cfa514e66e7", func := "panicroad/panicroadkeep.PanicsCut", spec := "panicsCut", apart := false, narrowed := true }
def PanicsCutUptoSaid : Prop := panicsCutUptoRow.holds Try.pinned (OpenSpec.upto panicsCutSpec)

/-- 'panicroadkeep.PanicsDirect', WHERE WHAT IT READS IS OF BULK AT MOST 1048576: true; the input reads as it did. -/
def panicsDirectUptoRow : OpenClaim := { program := "ytfholconiofgoaa", sum := "f3912e0f003e7a26282db42e99029557ce1b99701e9081b1df826cfa514e66e7", func := "panicroad/panicroadkeep.PanicsDirect", spec := "panicsDirect", apart := false, narrowed := true }
def PanicsDirectUptoSaid : Prop := panicsDirectUptoRow.holds Try.pinned (OpenSpec.upto panicsDirectSpec)

/-- 'panicroadkeep.ReportBack', WHERE WHAT IT READS IS OF BULK AT MOST 1048576: true; the input reads as it did. -/
def reportBackUptoRow : OpenClaim := { program := "ytfholconiofgoaa", sum := "f3912e0f003e7a26282db42e99029557ce1b99701e9081b1df826cfa514e66e7", func := "panicroad/panicroadkeep.ReportBack", spec := "reportBack", inPlace := ["internal/abi.NoEscape", "internal/bytealg.IndexByteString", "internal/bytealg.IndexString"], named := ["internal/bytealg.MaxLen"], apart := false, narrowed := true }
def ReportBackUptoSaid : Prop := reportBackUptoRow.holds Try.pinned (OpenSpec.upto reportBackSpec)

end Rows
end Go.Proofs.Ytfholconiofgoaa
