/-
  No cell of these rows narrows 'for every input' (looked for: loops, veiled, ifaces, maps, wideKeys, modest, calm, conditions, laid).
  DERIVED. THE GIVEN ROWS OF THIS SEAT. 12 by the template 'for every input the law returns true; each argument reads behind the call as it read before'; 0 by the template 'total and deterministic' (their statements: YtmcidhjcimjeiaaTotals.lean).
  GIVEN WITH THE SEED: the statements are not yours to turn. If you find one false, say at which input.
  Laid BY PROGRAM, IN A SANDBOX (cutbox-rows.mjs): the forced cells as the released guide's own fill.sh prints them over the translation 4d00a4f494620df7… (all of the seat's roots in one cut). By AI agents, Wed Nov 11 2026. No macro, syntax, notation, axiom, sorry.
-/
import Derived.Test.YtmcidhjcimjeiaaChecked
import GoSem.Claim
import GoSem.ClaimJoined
import GoSem.ClaimMapViews
import Derived.JoinedTies
import Derived.KernelRfl
namespace Go.Proofs.Ytmcidhjcimjeiaa
/- THE CELL 'sum', in the pinned program and in every row, IS THE sha256 OF THE DUMP (.gsa) THAT YtmcidhjcimjeiaaProg.lean LOADS. Nothing in Lean hashes anything: it is a label: what it is worth is what the hold of that sum in a sandbox is worth. -/
noncomputable def Try.pinned : Pinned := { name := "ytmcidhjcimjeiaa", sum := "4d00a4f494620df75aec934942cead359f9cae7bbcd47792246fb283c7de12a8", checked := Try.checked }
namespace Rows
def none {H : Type} : Left H := { results := [], args := [] }

/-- 'panicroadkeep.DefersStack': WHATEVER THE INPUT: true; the input reads as it did. -/
def defersStackSpec : ChangeSpec := { name := "defersStack", fn := fun _ => fun
  | [d1, d2] => { results := [.lit (.bool true)], args := [d1, d2] }
  | _ => none }
def defersStackRow : OpenClaim := { program := "ytmcidhjcimjeiaa", sum := "4d00a4f494620df75aec934942cead359f9cae7bbcd47792246fb283c7de12a8", func := "panicroad/panicroadkeep.DefersStack", spec := "defersStack", apart := false }
def DefersStackSaid : Prop := defersStackRow.holds Try.pinned (OpenSpec.ofChange defersStackSpec)

/-- ITS FALSE NEIGHBOUR: 'it returns false'. Refute it at one input. -/
def defersStackWrong : ChangeSpec := { name := "defersStack", fn := fun _ => fun
  | [d1, d2] => { results := [.lit (.bool false)], args := [d1, d2] }
  | _ => none }
def DefersStackWrongFalsely : Prop := defersStackRow.holds Try.pinned (OpenSpec.ofChange defersStackWrong)

/-- 'panicroadkeep.DefersBits': WHATEVER THE INPUT: true; the input reads as it did. -/
def defersBitsSpec : ChangeSpec := { name := "defersBits", fn := fun _ => fun
  | [d1, d2] => { results := [.lit (.bool true)], args := [d1, d2] }
  | _ => none }
def defersBitsRow : OpenClaim := { program := "ytmcidhjcimjeiaa", sum := "4d00a4f494620df75aec934942cead359f9cae7bbcd47792246fb283c7de12a8", func := "panicroad/panicroadkeep.DefersBits", spec := "defersBits", apart := false }
def DefersBitsSaid : Prop := defersBitsRow.holds Try.pinned (OpenSpec.ofChange defersBitsSpec)

/-- ITS FALSE NEIGHBOUR: 'it returns false'. Refute it at one input. -/
def defersBitsWrong : ChangeSpec := { name := "defersBits", fn := fun _ => fun
  | [d1, d2] => { results := [.lit (.bool false)], args := [d1, d2] }
  | _ => none }
def DefersBitsWrongFalsely : Prop := defersBitsRow.holds Try.pinned (OpenSpec.ofChange defersBitsWrong)

/-- 'panicroadkeep.DefersTwice': WHATEVER THE INPUT: true; the input reads as it did. -/
def defersTwiceSpec : ChangeSpec := { name := "defersTwice", fn := fun _ => fun
  | [d] => { results := [.lit (.bool true)], args := [d] }
  | _ => none }
def defersTwiceRow : OpenClaim := { program := "ytmcidhjcimjeiaa", sum := "4d00a4f494620df75aec934942cead359f9cae7bbcd47792246fb283c7de12a8", func := "panicroad/panicroadkeep.DefersTwice", spec := "defersTwice", apart := false }
def DefersTwiceSaid : Prop := defersTwiceRow.holds Try.pinned (OpenSpec.ofChange defersTwiceSpec)

/-- ITS FALSE NEIGHBOUR: 'it returns false'. Refute it at one input. -/
def defersTwiceWrong : ChangeSpec := { name := "defersTwice", fn := fun _ => fun
  | [d] => { results := [.lit (.bool false)], args := [d] }
  | _ => none }
def DefersTwiceWrongFalsely : Prop := defersTwiceRow.holds Try.pinned (OpenSpec.ofChange defersTwiceWrong)

/-- 'panicroadkeep.DefersSame': WHATEVER THE INPUT: true; the input reads as it did. -/
def defersSameSpec : ChangeSpec := { name := "defersSame", fn := fun _ => fun
  | [d] => { results := [.lit (.bool true)], args := [d] }
  | _ => none }
def defersSameRow : OpenClaim := { program := "ytmcidhjcimjeiaa", sum := "4d00a4f494620df75aec934942cead359f9cae7bbcd47792246fb283c7de12a8", func := "panicroad/panicroadkeep.DefersSame", spec := "defersSame", apart := false }
def DefersSameSaid : Prop := defersSameRow.holds Try.pinned (OpenSpec.ofChange defersSameSpec)

/-- ITS FALSE NEIGHBOUR: 'it returns false'. Refute it at one input. -/
def defersSameWrong : ChangeSpec := { name := "defersSame", fn := fun _ => fun
  | [d] => { results := [.lit (.bool false)], args := [d] }
  | _ => none }
def DefersSameWrongFalsely : Prop := defersSameRow.holds Try.pinned (OpenSpec.ofChange defersSameWrong)

/-- 'panicroadkeep.DefersMemory': WHATEVER THE INPUT: true; the input reads as it did. -/
def defersMemorySpec : ChangeSpec := { name := "defersMemory", fn := fun _ => fun
  | [d1, d2] => { results := [.lit (.bool true)], args := [d1, d2] }
  | _ => none }
def defersMemoryRow : OpenClaim := { program := "ytmcidhjcimjeiaa", sum := "4d00a4f494620df75aec934942cead359f9cae7bbcd47792246fb283c7de12a8", func := "panicroad/panicroadkeep.DefersMemory", spec := "defersMemory", apart := false }
def DefersMemorySaid : Prop := defersMemoryRow.holds Try.pinned (OpenSpec.ofChange defersMemorySpec)

/-- ITS FALSE NEIGHBOUR: 'it returns false'. Refute it at one input. -/
def defersMemoryWrong : ChangeSpec := { name := "defersMemory", fn := fun _ => fun
  | [d1, d2] => { results := [.lit (.bool false)], args := [d1, d2] }
  | _ => none }
def DefersMemoryWrongFalsely : Prop := defersMemoryRow.holds Try.pinned (OpenSpec.ofChange defersMemoryWrong)

/-- 'panicroadkeep.ImageNumberBack': WHATEVER THE INPUT: true; the input reads as it did. -/
def imageNumberBackSpec : ChangeSpec := { name := "imageNumberBack", fn := fun _ => fun
  | [d1, d2, d3] => { results := [.lit (.bool true)], args := [d1, d2, d3] }
  | _ => none }
def imageNumberBackRow : OpenClaim := { program := "ytmcidhjcimjeiaa", sum := "4d00a4f494620df75aec934942cead359f9cae7bbcd47792246fb283c7de12a8", func := "panicroad/panicroadkeep.ImageNumberBack", spec := "imageNumberBack", apart := false }
def ImageNumberBackSaid : Prop := imageNumberBackRow.holds Try.pinned (OpenSpec.ofChange imageNumberBackSpec)

/-- ITS FALSE NEIGHBOUR: 'it returns false'. Refute it at one input. -/
def imageNumberBackWrong : ChangeSpec := { name := "imageNumberBack", fn := fun _ => fun
  | [d1, d2, d3] => { results := [.lit (.bool false)], args := [d1, d2, d3] }
  | _ => none }
def ImageNumberBackWrongFalsely : Prop := imageNumberBackRow.holds Try.pinned (OpenSpec.ofChange imageNumberBackWrong)

/-- 'panicroadkeep.ScanQuoteBack': WHATEVER THE INPUT: true; the input reads as it did. -/
def scanQuoteBackSpec : ChangeSpec := { name := "scanQuoteBack", fn := fun _ => fun
  | [d] => { results := [.lit (.bool true)], args := [d] }
  | _ => none }
def scanQuoteBackRow : OpenClaim := { program := "ytmcidhjcimjeiaa", sum := "4d00a4f494620df75aec934942cead359f9cae7bbcd47792246fb283c7de12a8", func := "panicroad/panicroadkeep.ScanQuoteBack", spec := "scanQuoteBack", inPlace := ["internal/bytealg.IndexByteString"], apart := false }
def ScanQuoteBackSaid : Prop := scanQuoteBackRow.holds Try.pinned (OpenSpec.ofChange scanQuoteBackSpec)

/-- ITS FALSE NEIGHBOUR: 'it returns false'. Refute it at one input. -/
def scanQuoteBackWrong : ChangeSpec := { name := "scanQuoteBack", fn := fun _ => fun
  | [d] => { results := [.lit (.bool false)], args := [d] }
  | _ => none }
def ScanQuoteBackWrongFalsely : Prop := scanQuoteBackRow.holds Try.pinned (OpenSpec.ofChange scanQuoteBackWrong)

/-- 'panicroadkeep.ScanQuoteOnly': WHATEVER THE INPUT: true; the input reads as it did. -/
def scanQuoteOnlySpec : ChangeSpec := { name := "scanQuoteOnly", fn := fun _ => fun
  | [d] => { results := [.lit (.bool true)], args := [d] }
  | _ => none }
def scanQuoteOnlyRow : OpenClaim := { program := "ytmcidhjcimjeiaa", sum := "4d00a4f494620df75aec934942cead359f9cae7bbcd47792246fb283c7de12a8", func := "panicroad/panicroadkeep.ScanQuoteOnly", spec := "scanQuoteOnly", inPlace := ["internal/bytealg.IndexByteString"], apart := false }
def ScanQuoteOnlySaid : Prop := scanQuoteOnlyRow.holds Try.pinned (OpenSpec.ofChange scanQuoteOnlySpec)

/-- ITS FALSE NEIGHBOUR: 'it returns false'. Refute it at one input. -/
def scanQuoteOnlyWrong : ChangeSpec := { name := "scanQuoteOnly", fn := fun _ => fun
  | [d] => { results := [.lit (.bool false)], args := [d] }
  | _ => none }
def ScanQuoteOnlyWrongFalsely : Prop := scanQuoteOnlyRow.holds Try.pinned (OpenSpec.ofChange scanQuoteOnlyWrong)

/-- 'panicroadkeep.TypesMemory': WHATEVER THE INPUT: true; the input reads as it did. -/
def typesMemorySpec : ChangeSpec := { name := "typesMemory", fn := fun _ => fun
  | [d] => { results := [.lit (.bool true)], args := [d] }
  | _ => none }
def typesMemoryRow : OpenClaim := { program := "ytmcidhjcimjeiaa", sum := "4d00a4f494620df75aec934942cead359f9cae7bbcd47792246fb283c7de12a8", func := "panicroad/panicroadkeep.TypesMemory", spec := "typesMemory", unfollowed := true, recurses := true, apart := false }
def TypesMemorySaid : Prop := typesMemoryRow.holds Try.pinned (OpenSpec.ofChange typesMemorySpec)

/-- ITS FALSE NEIGHBOUR: 'it returns false'. Refute it at one input. -/
def typesMemoryWrong : ChangeSpec := { name := "typesMemory", fn := fun _ => fun
  | [d] => { results := [.lit (.bool false)], args := [d] }
  | _ => none }
def TypesMemoryWrongFalsely : Prop := typesMemoryRow.holds Try.pinned (OpenSpec.ofChange typesMemoryWrong)

/-- 'panicroadkeep.TypesFitting': WHATEVER THE INPUT: true; the input reads as it did. -/
def typesFittingSpec : ChangeSpec := { name := "typesFitting", fn := fun _ => fun
  | [d1, d2] => { results := [.lit (.bool true)], args := [d1, d2] }
  | _ => none }
def typesFittingRow : OpenClaim := { program := "ytmcidhjcimjeiaa", sum := "4d00a4f494620df75aec934942cead359f9cae7bbcd47792246fb283c7de12a8", func := "panicroad/panicroadkeep.TypesFitting", spec := "typesFitting", unfollowed := true, recurses := true, apart := false }
def TypesFittingSaid : Prop := typesFittingRow.holds Try.pinned (OpenSpec.ofChange typesFittingSpec)

/-- ITS FALSE NEIGHBOUR: 'it returns false'. Refute it at one input. -/
def typesFittingWrong : ChangeSpec := { name := "typesFitting", fn := fun _ => fun
  | [d1, d2] => { results := [.lit (.bool false)], args := [d1, d2] }
  | _ => none }
def TypesFittingWrongFalsely : Prop := typesFittingRow.holds Try.pinned (OpenSpec.ofChange typesFittingWrong)

/-- 'panicroadkeep.TypesBack': WHATEVER THE INPUT: true; the input reads as it did. -/
def typesBackSpec : ChangeSpec := { name := "typesBack", fn := fun _ => fun
  | [d] => { results := [.lit (.bool true)], args := [d] }
  | _ => none }
def typesBackRow : OpenClaim := { program := "ytmcidhjcimjeiaa", sum := "4d00a4f494620df75aec934942cead359f9cae7bbcd47792246fb283c7de12a8", func := "panicroad/panicroadkeep.TypesBack", spec := "typesBack", unfollowed := true, recurses := true, apart := false }
def TypesBackSaid : Prop := typesBackRow.holds Try.pinned (OpenSpec.ofChange typesBackSpec)

/-- ITS FALSE NEIGHBOUR: 'it returns false'. Refute it at one input. -/
def typesBackWrong : ChangeSpec := { name := "typesBack", fn := fun _ => fun
  | [d] => { results := [.lit (.bool false)], args := [d] }
  | _ => none }
def TypesBackWrongFalsely : Prop := typesBackRow.holds Try.pinned (OpenSpec.ofChange typesBackWrong)

/-- 'panicroadkeep.TypesMade': WHATEVER THE INPUT: true; the input reads as it did. -/
def typesMadeSpec : ChangeSpec := { name := "typesMade", fn := fun _ => fun
  | [d1, d2] => { results := [.lit (.bool true)], args := [d1, d2] }
  | _ => none }
def typesMadeRow : OpenClaim := { program := "ytmcidhjcimjeiaa", sum := "4d00a4f494620df75aec934942cead359f9cae7bbcd47792246fb283c7de12a8", func := "panicroad/panicroadkeep.TypesMade", spec := "typesMade", unfollowed := true, recurses := true, apart := false }
def TypesMadeSaid : Prop := typesMadeRow.holds Try.pinned (OpenSpec.ofChange typesMadeSpec)

/-- ITS FALSE NEIGHBOUR: 'it returns false'. Refute it at one input. -/
def typesMadeWrong : ChangeSpec := { name := "typesMade", fn := fun _ => fun
  | [d1, d2] => { results := [.lit (.bool false)], args := [d1, d2] }
  | _ => none }
def TypesMadeWrongFalsely : Prop := typesMadeRow.holds Try.pinned (OpenSpec.ofChange typesMadeWrong)

/- THE SECOND FORM. 'bulk': how many values and letters a reading holds, each counted each time it is reached (what is shared counts as often as it is met; a slice's spare places count too). A statement '..UptoSaid' is the law's where the arguments, and the package variables that the reading takes, are together of bulk at most 1048576: NARROWER than '..Said'. Prove '..Said' where nothing that the law and all that it calls make is longer than what came in: it says more and counts as full. Else prove '..UptoSaid'. A law counts once. -/
mutual
def uptoBulk {H : Type} : DataW H → Nat
  | .lit (.string bytes) => bytes.length + 1
  | .lit _ => 1
  | .nil => 1
  | .ptr d => uptoBulk d + 1
  | .slice elems spare => uptoBulkAll elems + uptoBulkAll spare + 1
  | .agg parts => uptoBulkAll parts + 1
  | .iface _ d => uptoBulk d + 1
  | .map entries => uptoBulkEntries entries + 1
  | .held _ => 1
def uptoBulkAll {H : Type} : List (DataW H) → Nat
  | [] => 0
  | d :: r => uptoBulk d + uptoBulkAll r
def uptoBulkEntries {H : Type} : List (Lit × DataW H) → Nat
  | [] => 0
  | x :: r => uptoBulkEntry x + uptoBulkEntries r
def uptoBulkEntry {H : Type} : Lit × DataW H → Nat
  | (.string bytes, d) => bytes.length + uptoBulk d + 1
  | (_, d) => uptoBulk d + 1
 end
def uptoSmall : (H : Type) → List (DataW H) → Bool := fun _ ds => decide (uptoBulkAll ds ≤ 1048576)
def OpenSpec.upto (s : _root_.Go.ChangeSpec) : _root_.Go.OpenSpec := { _root_.Go.OpenSpec.ofChange s with cond := some uptoSmall }

/-- 'panicroadkeep.DefersStack', WHERE WHAT IT READS IS OF BULK AT MOST 1048576: true; the input reads as it did. -/
def defersStackUptoRow : OpenClaim := { program := "ytmcidhjcimjeiaa", sum := "4d00a4f494620df75aec934942cead359f9cae7bbcd47792246fb283c7de12a8", func := "panicroad/panicroadkeep.DefersStack", spec := "defersStack", apart := false, narrowed := true }
def DefersStackUptoSaid : Prop := defersStackUptoRow.holds Try.pinned (OpenSpec.upto defersStackSpec)

/-- 'panicroadkeep.DefersBits', WHERE WHAT IT READS IS OF BULK AT MOST 1048576: true; the input reads as it did. -/
def defersBitsUptoRow : OpenClaim := { program := "ytmcidhjcimjeiaa", sum := "4d00a4f494620df75aec934942cead359f9cae7bbcd47792246fb283c7de12a8", func := "panicroad/panicroadkeep.DefersBits", spec := "defersBits", apart := false, narrowed := true }
def DefersBitsUptoSaid : Prop := defersBitsUptoRow.holds Try.pinned (OpenSpec.upto defersBitsSpec)

/-- 'panicroadkeep.DefersTwice', WHERE WHAT IT READS IS OF BULK AT MOST 1048576: true; the input reads as it did. -/
def defersTwiceUptoRow : OpenClaim := { program := "ytmcidhjcimjeiaa", sum := "4d00a4f494620df75aec934942cead359f9cae7bbcd47792246fb283c7de12a8", func := "panicroad/panicroadkeep.DefersTwice", spec := "defersTwice", apart := false, narrowed := true }
def DefersTwiceUptoSaid : Prop := defersTwiceUptoRow.holds Try.pinned (OpenSpec.upto defersTwiceSpec)

/-- 'panicroadkeep.DefersSame', WHERE WHAT IT READS IS OF BULK AT MOST 1048576: true; the input reads as it did. -/
def defersSameUptoRow : OpenClaim := { program := "ytmcidhjcimjeiaa", sum := "4d00a4f494620df75aec934942cead359f9cae7bbcd47792246fb283c7de12a8", func := "panicroad/panicroadkeep.DefersSame", spec := "defersSame", apart := false, narrowed := true }
def DefersSameUptoSaid : Prop := defersSameUptoRow.holds Try.pinned (OpenSpec.upto defersSameSpec)

/-- 'panicroadkeep.DefersMemory', WHERE WHAT IT READS IS OF BULK AT MOST 1048576: true; the input reads as it did. -/
def defersMemoryUptoRow : OpenClaim := { program := "ytmcidhjcimjeiaa", sum := "4d00a4f494620df75aec934942cead359f9cae7bbcd47792246fb283c7de12a8", func := "panicroad/panicroadkeep.DefersMemory", spec := "defersMemory", apart := false, narrowed := true }
def DefersMemoryUptoSaid : Prop := defersMemoryUptoRow.holds Try.pinned (OpenSpec.upto defersMemorySpec)

/-- 'panicroadkeep.ImageNumberBack', WHERE WHAT IT READS IS OF BULK AT MOST 1048576: true; the input reads as it did. -/
def imageNumberBackUptoRow : OpenClaim := { program := "ytmcidhjcimjeiaa", sum := "4d00a4f494620df75aec934942cead359f9cae7bbcd47792246fb283c7de12a8", func := "panicroad/panicroadkeep.ImageNumberBack", spec := "imageNumberBack", apart := false, narrowed := true }
def ImageNumberBackUptoSaid : Prop := imageNumberBackUptoRow.holds Try.pinned (OpenSpec.upto imageNumberBackSpec)

/-- 'panicroadkeep.ScanQuoteBack', WHERE WHAT IT READS IS OF BULK AT MOST 1048576: true; the input reads as it did. -/
def scanQuoteBackUptoRow : OpenClaim := { program := "ytmcidhjcimjeiaa", sum := "4d00a4f494620df75aec934942cead359f9cae7bbcd47792246fb283c7de12a8", func := "panicroad/panicroadkeep.ScanQuoteBack", spec := "scanQuoteBack", inPlace := ["internal/bytealg.IndexByteString"], apart := false, narrowed := true }
def ScanQuoteBackUptoSaid : Prop := scanQuoteBackUptoRow.holds Try.pinned (OpenSpec.upto scanQuoteBackSpec)

/-- 'panicroadkeep.ScanQuoteOnly', WHERE WHAT IT READS IS OF BULK AT MOST 1048576: true; the input reads as it did. -/
def scanQuoteOnlyUptoRow : OpenClaim := { program := "ytmcidhjcimjeiaa", sum := "4d00a4f494620df75aec934942cead359f9cae7bbcd47792246fb283c7de12a8", func := "panicroad/panicroadkeep.ScanQuoteOnly", spec := "scanQuoteOnly", inPlace := ["internal/bytealg.IndexByteString"], apart := false, narrowed := true }
def ScanQuoteOnlyUptoSaid : Prop := scanQuoteOnlyUptoRow.holds Try.pinned (OpenSpec.upto scanQuoteOnlySpec)

/-- 'panicroadkeep.TypesMemory', WHERE WHAT IT READS IS OF BULK AT MOST 1048576: true; the input reads as it did. -/
def typesMemoryUptoRow : OpenClaim := { program := "ytmcidhjcimjeiaa", sum := "4d00a4f494620df75aec934942cead359f9cae7bbcd47792246fb283c7de12a8", func := "panicroad/panicroadkeep.TypesMemory", spec := "typesMemory", unfollowed := true, recurses := true, apart := false, narrowed := true }
def TypesMemoryUptoSaid : Prop := typesMemoryUptoRow.holds Try.pinned (OpenSpec.upto typesMemorySpec)

/-- 'panicroadkeep.TypesFitting', WHERE WHAT IT READS IS OF BULK AT MOST 1048576: true; the input reads as it did. -/
def typesFittingUptoRow : OpenClaim := { program := "ytmcidhjcimjeiaa", sum := "4d00a4f494620df75aec934942cead359f9cae7bbcd47792246fb283c7de12a8", func := "panicroad/panicroadkeep.TypesFitting", spec := "typesFitting", unfollowed := true, recurses := true, apart := false, narrowed := true }
def TypesFittingUptoSaid : Prop := typesFittingUptoRow.holds Try.pinned (OpenSpec.upto typesFittingSpec)

/-- 'panicroadkeep.TypesBack', WHERE WHAT IT READS IS OF BULK AT MOST 1048576: true; the input reads as it did. -/
def typesBackUptoRow : OpenClaim := { program := "ytmcidhjcimjeiaa", sum := "4d00a4f494620df75aec934942cead359f9cae7bbcd47792246fb283c7de12a8", func := "panicroad/panicroadkeep.TypesBack", spec := "typesBack", unfollowed := true, recurses := true, apart := false, narrowed := true }
def TypesBackUptoSaid : Prop := typesBackUptoRow.holds Try.pinned (OpenSpec.upto typesBackSpec)

/-- 'panicroadkeep.TypesMade', WHERE WHAT IT READS IS OF BULK AT MOST 1048576: true; the input reads as it did. -/
def typesMadeUptoRow : OpenClaim := { program := "ytmcidhjcimjeiaa", sum := "4d00a4f494620df75aec934942cead359f9cae7bbcd47792246fb283c7de12a8", func := "panicroad/panicroadkeep.TypesMade", spec := "typesMade", unfollowed := true, recurses := true, apart := false, narrowed := true }
def TypesMadeUptoSaid : Prop := typesMadeUptoRow.holds Try.pinned (OpenSpec.upto typesMadeSpec)

end Rows
end Go.Proofs.Ytmcidhjcimjeiaa
