/-
  No cell of these rows narrows 'for every input' (looked for: loops, veiled, ifaces, maps, wideKeys, modest, calm, conditions, laid).
  DERIVED. THE GIVEN ROWS OF THIS SEAT. 5 by the template 'for every input the law returns true; each argument reads behind the call as it read before'; 0 by the template 'total and deterministic' (their statements: YtgonekmmbeedeaaTotals.lean).
  GIVEN WITH THE SEED: the statements are not yours to turn. If you find one false, say at which input.
  Laid BY PROGRAM, IN A SANDBOX (cutbox-rows.mjs): the forced cells as the released guide's own fill.sh prints them over the translation fe7599c93e5a2816… (all of the seat's roots in one cut). By AI agents, Wed Nov 11 2026. No macro, syntax, notation, axiom, sorry.
-/
import Derived.Test.YtgonekmmbeedeaaChecked
import GoSem.Claim
import GoSem.ClaimJoined
import GoSem.ClaimMapViews
import Derived.JoinedTies
import Derived.KernelRfl
namespace Go.Proofs.Ytgonekmmbeedeaa
/- THE CELL 'sum', in the pinned program and in every row, IS THE sha256 OF THE DUMP (.gsa) THAT YtgonekmmbeedeaaProg.lean LOADS. Nothing in Lean hashes anything: it is a label: what it is worth is what the hold of that sum in a sandbox is worth. -/
noncomputable def Try.pinned : Pinned := { name := "ytgonekmmbeedeaa", sum := "fe7599c93e5a281603334c36a01db8bb53de0d1d366fc23ff419db38261fa7ec", checked := Try.checked }
namespace Rows
def none {H : Type} : Left H := { results := [], args := [] }

/-- 'panicroadkeep.ImageMemory': WHATEVER THE INPUT: true; the input reads as it did. -/
def imageMemorySpec : ChangeSpec := { name := "imageMemory", fn := fun _ => fun
  | [d1, d2, d3] => { results := [.lit (.bool true)], args := [d1, d2, d3] }
  | _ => none }
def imageMemoryRow : OpenClaim := { program := "ytgonekmmbeedeaa", sum := "fe7599c93e5a281603334c36a01db8bb53de0d1d366fc23ff419db38261fa7ec", func := "panicroad/panicroadkeep.ImageMemory", spec := "imageMemory", inPlace := ["internal/bytealg.IndexByteString"], unfollowed := true, recurses := true, apart := false }
def ImageMemorySaid : Prop := imageMemoryRow.holds Try.pinned (OpenSpec.ofChange imageMemorySpec)

/-- ITS FALSE NEIGHBOUR: 'it returns false'. Refute it at one input. -/
def imageMemoryWrong : ChangeSpec := { name := "imageMemory", fn := fun _ => fun
  | [d1, d2, d3] => { results := [.lit (.bool false)], args := [d1, d2, d3] }
  | _ => none }
def ImageMemoryWrongFalsely : Prop := imageMemoryRow.holds Try.pinned (OpenSpec.ofChange imageMemoryWrong)

/-- 'panicroadkeep.SqueezeMemory': WHATEVER THE INPUT: true; the input reads as it did. -/
def squeezeMemorySpec : ChangeSpec := { name := "squeezeMemory", fn := fun _ => fun
  | [d] => { results := [.lit (.bool true)], args := [d] }
  | _ => none }
def squeezeMemoryRow : OpenClaim := { program := "ytgonekmmbeedeaa", sum := "fe7599c93e5a281603334c36a01db8bb53de0d1d366fc23ff419db38261fa7ec", func := "panicroad/panicroadkeep.SqueezeMemory", spec := "squeezeMemory", inPlace := ["internal/bytealg.IndexByteString"], unfollowed := true, recurses := true, apart := false }
def SqueezeMemorySaid : Prop := squeezeMemoryRow.holds Try.pinned (OpenSpec.ofChange squeezeMemorySpec)

/-- ITS FALSE NEIGHBOUR: 'it returns false'. Refute it at one input. -/
def squeezeMemoryWrong : ChangeSpec := { name := "squeezeMemory", fn := fun _ => fun
  | [d] => { results := [.lit (.bool false)], args := [d] }
  | _ => none }
def SqueezeMemoryWrongFalsely : Prop := squeezeMemoryRow.holds Try.pinned (OpenSpec.ofChange squeezeMemoryWrong)

/-- 'panicroadkeep.SqueezeAgain': WHATEVER THE INPUT: true; the input reads as it did. -/
def squeezeAgainSpec : ChangeSpec := { name := "squeezeAgain", fn := fun _ => fun
  | [d] => { results := [.lit (.bool true)], args := [d] }
  | _ => none }
def squeezeAgainRow : OpenClaim := { program := "ytgonekmmbeedeaa", sum := "fe7599c93e5a281603334c36a01db8bb53de0d1d366fc23ff419db38261fa7ec", func := "panicroad/panicroadkeep.SqueezeAgain", spec := "squeezeAgain", inPlace := ["internal/bytealg.IndexByteString"], unfollowed := true, recurses := true, apart := false }
def SqueezeAgainSaid : Prop := squeezeAgainRow.holds Try.pinned (OpenSpec.ofChange squeezeAgainSpec)

/-- ITS FALSE NEIGHBOUR: 'it returns false'. Refute it at one input. -/
def squeezeAgainWrong : ChangeSpec := { name := "squeezeAgain", fn := fun _ => fun
  | [d] => { results := [.lit (.bool false)], args := [d] }
  | _ => none }
def SqueezeAgainWrongFalsely : Prop := squeezeAgainRow.holds Try.pinned (OpenSpec.ofChange squeezeAgainWrong)

/-- 'panicroadkeep.ParseWraps': WHATEVER THE INPUT: true; the input reads as it did. -/
def parseWrapsSpec : ChangeSpec := { name := "parseWraps", fn := fun _ => fun
  | [d] => { results := [.lit (.bool true)], args := [d] }
  | _ => none }
def parseWrapsRow : OpenClaim := { program := "ytgonekmmbeedeaa", sum := "fe7599c93e5a281603334c36a01db8bb53de0d1d366fc23ff419db38261fa7ec", func := "panicroad/panicroadkeep.ParseWraps", spec := "parseWraps", inPlace := ["internal/bytealg.IndexByteString"], unfollowed := true, recurses := true, apart := false }
def ParseWrapsSaid : Prop := parseWrapsRow.holds Try.pinned (OpenSpec.ofChange parseWrapsSpec)

/-- ITS FALSE NEIGHBOUR: 'it returns false'. Refute it at one input. -/
def parseWrapsWrong : ChangeSpec := { name := "parseWraps", fn := fun _ => fun
  | [d] => { results := [.lit (.bool false)], args := [d] }
  | _ => none }
def ParseWrapsWrongFalsely : Prop := parseWrapsRow.holds Try.pinned (OpenSpec.ofChange parseWrapsWrong)

/-- 'panicroadkeep.ParseRanks': WHATEVER THE INPUT: true; the input reads as it did. -/
def parseRanksSpec : ChangeSpec := { name := "parseRanks", fn := fun _ => fun
  | [d1, d2] => { results := [.lit (.bool true)], args := [d1, d2] }
  | _ => none }
def parseRanksRow : OpenClaim := { program := "ytgonekmmbeedeaa", sum := "fe7599c93e5a281603334c36a01db8bb53de0d1d366fc23ff419db38261fa7ec", func := "panicroad/panicroadkeep.ParseRanks", spec := "parseRanks", inPlace := ["internal/bytealg.IndexByteString"], unfollowed := true, recurses := true, apart := false }
def ParseRanksSaid : Prop := parseRanksRow.holds Try.pinned (OpenSpec.ofChange parseRanksSpec)

/-- ITS FALSE NEIGHBOUR: 'it returns false'. Refute it at one input. -/
def parseRanksWrong : ChangeSpec := { name := "parseRanks", fn := fun _ => fun
  | [d1, d2] => { results := [.lit (.bool false)], args := [d1, d2] }
  | _ => none }
def ParseRanksWrongFalsely : Prop := parseRanksRow.holds Try.pinned (OpenSpec.ofChange parseRanksWrong)

/- THE SECOND FORM. 'bulk': how many values and letters a reading holds, each counted each time it is reached (what is shared counts as often as it is met; a slice's spare places count too). A statement '..UptoSaid' is the law's where the arguments, and the package variables that the reading takes, are together of bulk at most 1048576: NARROWER than '..Said'. Prove '..Said' where nothing that the law and all that it calls make is longer than what came in: it says more and counts as full. Else prove '..UptoSaid'. A law counts once. -/
mutual
def uptoBulk {H : Type} : DataW H → Nat
  | .lit (.string bytes) => bytes.length + 1
  | .lit _ => 1
  | .nil => 1
  | .ptr d => uptoBulk d + 1
  | .slice elems spare => uptoBulkAll elems + uptoBulkAll spare + 1
  | .agg parts => uptoBulkAll parts + 1
  | .iface _ d => uptoBulk d + 1
  | .map entries => uptoBulkEntries entries + 1
  | .held _ => 1
def uptoBulkAll {H : Type} : List (DataW H) → Nat
  | [] => 0
  | d :: r => uptoBulk d + uptoBulkAll r
def uptoBulkEntries {H : Type} : List (Lit × DataW H) → Nat
  | [] => 0
  | x :: r => uptoBulkEntry x + uptoBulkEntries r
def uptoBulkEntry {H : Type} : Lit × DataW H → Nat
  | (.string bytes, d) => bytes.length + uptoBulk d + 1
  | (_, d) => uptoBulk d + 1
 end
def uptoSmall : (H : Type) → List (DataW H) → Bool := fun _ ds => decide (uptoBulkAll ds ≤ 1048576)
def OpenSpec.upto (s : _root_.Go.ChangeSpec) : _root_.Go.OpenSpec := { _root_.Go.OpenSpec.ofChange s with cond := some uptoSmall }

/-- 'panicroadkeep.ImageMemory', WHERE WHAT IT READS IS OF BULK AT MOST 1048576: true; the input reads as it did. -/
def imageMemoryUptoRow : OpenClaim := { program := "ytgonekmmbeedeaa", sum := "fe7599c93e5a281603334c36a01db8bb53de0d1d366fc23ff419db38261fa7ec", func := "panicroad/panicroadkeep.ImageMemory", spec := "imageMemory", inPlace := ["internal/bytealg.IndexByteString"], unfollowed := true, recurses := true, apart := false, narrowed := true }
def ImageMemoryUptoSaid : Prop := imageMemoryUptoRow.holds Try.pinned (OpenSpec.upto imageMemorySpec)

/-- 'panicroadkeep.SqueezeMemory', WHERE WHAT IT READS IS OF BULK AT MOST 1048576: true; the input reads as it did. -/
def squeezeMemoryUptoRow : OpenClaim := { program := "ytgonekmmbeedeaa", sum := "fe7599c93e5a281603334c36a01db8bb53de0d1d366fc23ff419db38261fa7ec", func := "panicroad/panicroadkeep.SqueezeMemory", spec := "squeezeMemory", inPlace := ["internal/bytealg.IndexByteString"], unfollowed := true, recurses := true, apart := false, narrowed := true }
def SqueezeMemoryUptoSaid : Prop := squeezeMemoryUptoRow.holds Try.pinned (OpenSpec.upto squeezeMemorySpec)

/-- 'panicroadkeep.SqueezeAgain', WHERE WHAT IT READS IS OF BULK AT MOST 1048576: true; the input reads as it did. -/
def squeezeAgainUptoRow : OpenClaim := { program := "ytgonekmmbeedeaa", sum := "fe7599c93e5a281603334c36a01db8bb53de0d1d366fc23ff419db38261fa7ec", func := "panicroad/panicroadkeep.SqueezeAgain", spec := "squeezeAgain", inPlace := ["internal/bytealg.IndexByteString"], unfollowed := true, recurses := true, apart := false, narrowed := true }
def SqueezeAgainUptoSaid : Prop := squeezeAgainUptoRow.holds Try.pinned (OpenSpec.upto squeezeAgainSpec)

/-- 'panicroadkeep.ParseWraps', WHERE WHAT IT READS IS OF BULK AT MOST 1048576: true; the input reads as it did. -/
def parseWrapsUptoRow : OpenClaim := { program := "ytgonekmmbeedeaa", sum := "fe7599c93e5a281603334c36a01db8bb53de0d1d366fc23ff419db38261fa7ec", func := "panicroad/panicroadkeep.ParseWraps", spec := "parseWraps", inPlace := ["internal/bytealg.IndexByteString"], unfollowed := true, recurses := true, apart := false, narrowed := true }
def ParseWrapsUptoSaid : Prop := parseWrapsUptoRow.holds Try.pinned (OpenSpec.upto parseWrapsSpec)

/-- 'panicroadkeep.ParseRanks', WHERE WHAT IT READS IS OF BULK AT MOST 1048576: true; the input reads as it did. -/
def parseRanksUptoRow : OpenClaim := { program := "ytgonekmmbeedeaa", sum := "fe7599c93e5a281603334c36a01db8bb53de0d1d366fc23ff419db38261fa7ec", func := "panicroad/panicroadkeep.ParseRanks", spec := "parseRanks", inPlace := ["internal/bytealg.IndexByteString"], unfollowed := true, recurses := true, apart := false, narrowed := true }
def ParseRanksUptoSaid : Prop := parseRanksUptoRow.holds Try.pinned (OpenSpec.upto parseRanksSpec)

end Rows
end Go.Proofs.Ytgonekmmbeedeaa
