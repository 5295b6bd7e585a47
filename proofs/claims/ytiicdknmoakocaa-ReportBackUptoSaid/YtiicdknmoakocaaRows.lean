/-
  No cell of these rows narrows 'for every input' (looked for: loops, veiled, ifaces, maps, wideKeys, modest, calm, conditions, laid).
  DERIVED. THE GIVEN ROWS OF THIS SEAT. 5 by the template 'for every input the law returns true; each argument reads behind the call as it read before'; 0 by the template 'total and deterministic' (their statements: YtiicdknmoakocaaTotals.lean).
  GIVEN WITH THE SEED: the statements are not yours to turn. If you find one false, say at which input.
  Laid BY PROGRAM, IN A SANDBOX (cutbox-rows.mjs): the forced cells as the released guide's own fill.sh prints them over the translation f135c206e70bd78d… (all of the seat's roots in one cut). By AI agents, Wed Nov 11 2026. No macro, syntax, notation, axiom, sorry.
-/
import Derived.Test.YtiicdknmoakocaaChecked
import GoSem.Claim
import GoSem.ClaimJoined
import GoSem.ClaimMapViews
import Derived.JoinedTies
import Derived.KernelRfl
namespace Go.Proofs.Ytiicdknmoakocaa
/- THE CELL 'sum', in the pinned program and in every row, IS THE sha256 OF THE DUMP (.gsa) THAT YtiicdknmoakocaaProg.lean LOADS. Nothing in Lean hashes anything: it is a label: what it is worth is what the hold of that sum in a sandbox is worth. -/
noncomputable def Try.pinned : Pinned := { name := "ytiicdknmoakocaa", sum := "f135c206e70bd78dcc0da08ab9414a6e09ad13aa5461a78d59eef8ca4de3e446", checked := Try.checked }
namespace Rows
def none {H : Type} : Left H := { results := [], args := [] }

/-- 'panicroadkeep.PanicsMemory': WHATEVER THE INPUT: true; the input reads as it did. -/
def panicsMemorySpec : ChangeSpec := { name := "panicsMemory", fn := fun _ => fun
  | [d1, d2] => { results := [.lit (.bool true)], args := [d1, d2] }
  | _ => none }
def panicsMemoryRow : OpenClaim := { program := "ytiicdknmoakocaa", sum := "f135c206e70bd78dcc0da08ab9414a6e09ad13aa5461a78d59eef8ca4de3e446", func := "panicroad/panicroadkeep.PanicsMemory", spec := "panicsMemory", apart := false }
def PanicsMemorySaid : Prop := panicsMemoryRow.holds Try.pinned (OpenSpec.ofChange panicsMemorySpec)

/-- ITS FALSE NEIGHBOUR: 'it returns false'. Refute it at one input. -/
def panicsMemoryWrong : ChangeSpec := { name := "panicsMemory", fn := fun _ => fun
  | [d1, d2] => { results := [.lit (.bool false)], args := [d1, d2] }
  | _ => none }
def PanicsMemoryWrongFalsely : Prop := panicsMemoryRow.holds Try.pinned (OpenSpec.ofChange panicsMemoryWrong)

/-- 'panicroadkeep.ReportBack': WHATEVER THE INPUT: true; the input reads as it did. -/
def reportBackSpec : ChangeSpec := { name := "reportBack", fn := fun _ => fun
  | [d] => { results := [.lit (.bool true)], args := [d] }
  | _ => none }
def reportBackRow : OpenClaim := { program := "ytiicdknmoakocaa", sum := "f135c206e70bd78dcc0da08ab9414a6e09ad13aa5461a78d59eef8ca4de3e446", func := "panicroad/panicroadkeep.ReportBack", spec := "reportBack", inPlace := ["internal/abi.NoEscape", "internal/bytealg.IndexByteString", "internal/bytealg.IndexString"], named := ["internal/bytealg.MaxLen"], apart := false }
def ReportBackSaid : Prop := reportBackRow.holds Try.pinned (OpenSpec.ofChange reportBackSpec)

/-- ITS FALSE NEIGHBOUR: 'it returns false'. Refute it at one input. -/
def reportBackWrong : ChangeSpec := { name := "reportBack", fn := fun _ => fun
  | [d] => { results := [.lit (.bool false)], args := [d] }
  | _ => none }
def ReportBackWrongFalsely : Prop := reportBackRow.holds Try.pinned (OpenSpec.ofChange reportBackWrong)

/-- 'panicroadkeep.ImageMemory': WHATEVER THE INPUT: true; the input reads as it did. -/
def imageMemorySpec : ChangeSpec := { name := "imageMemory", fn := fun _ => fun
  | [d1, d2, d3] => { results := [.lit (.bool true)], args := [d1, d2, d3] }
  | _ => none }
def imageMemoryRow : OpenClaim := { program := "ytiicdknmoakocaa", sum := "f135c206e70bd78dcc0da08ab9414a6e09ad13aa5461a78d59eef8ca4de3e446", func := "panicroad/panicroadkeep.ImageMemory", spec := "imageMemory", inPlace := ["internal/bytealg.IndexByteString"], unfollowed := true, recurses := true, apart := false }
def ImageMemorySaid : Prop := imageMemoryRow.holds Try.pinned (OpenSpec.ofChange imageMemorySpec)

/-- ITS FALSE NEIGHBOUR: 'it returns false'. Refute it at one input. -/
def imageMemoryWrong : ChangeSpec := { name := "imageMemory", fn := fun _ => fun
  | [d1, d2, d3] => { results := [.lit (.bool false)], args := [d1, d2, d3] }
  | _ => none }
def ImageMemoryWrongFalsely : Prop := imageMemoryRow.holds Try.pinned (OpenSpec.ofChange imageMemoryWrong)

/-- 'panicroadkeep.SqueezeMemory': WHATEVER THE INPUT: true; the input reads as it did. -/
def squeezeMemorySpec : ChangeSpec := { name := "squeezeMemory", fn := fun _ => fun
  | [d] => { results := [.lit (.bool true)], args := [d] }
  | _ => none }
def squeezeMemoryRow : OpenClaim := { program := "ytiicdknmoakocaa", sum := "f135c206e70bd78dcc0da08ab9414a6e09ad13aa5461a78d59eef8ca4de3e446", func := "panicroad/panicroadkeep.SqueezeMemory", spec := "squeezeMemory", inPlace := ["internal/bytealg.IndexByteString"], unfollowed := true, recurses := true, apart := false }
def SqueezeMemorySaid : Prop := squeezeMemoryRow.holds Try.pinned (OpenSpec.ofChange squeezeMemorySpec)

/-- ITS FALSE NEIGHBOUR: 'it returns false'. Refute it at one input. -/
def squeezeMemoryWrong : ChangeSpec := { name := "squeezeMemory", fn := fun _ => fun
  | [d] => { results := [.lit (.bool false)], args := [d] }
  | _ => none }
def SqueezeMemoryWrongFalsely : Prop := squeezeMemoryRow.holds Try.pinned (OpenSpec.ofChange squeezeMemoryWrong)

/-- 'panicroadkeep.SqueezeAgain': WHATEVER THE INPUT: true; the input reads as it did. -/
def squeezeAgainSpec : ChangeSpec := { name := "squeezeAgain", fn := fun _ => fun
  | [d] => { results := [.lit (.bool true)], args := [d] }
  | _ => none }
def squeezeAgainRow : OpenClaim := { program := "ytiicdknmoakocaa", sum := "f135c206e70bd78dcc0da08ab9414a6e09ad13aa5461a78d59eef8ca4de3e446", func := "panicroad/panicroadkeep.SqueezeAgain", spec := "squeezeAgain", inPlace := ["internal/bytealg.IndexByteString"], unfollowed := true, recurses := true, apart := false }
def SqueezeAgainSaid : Prop := squeezeAgainRow.holds Try.pinned (OpenSpec.ofChange squeezeAgainSpec)

/-- ITS FALSE NEIGHBOUR: 'it returns false'. Refute it at one input. -/
def squeezeAgainWrong : ChangeSpec := { name := "squeezeAgain", fn := fun _ => fun
  | [d] => { results := [.lit (.bool false)], args := [d] }
  | _ => none }
def SqueezeAgainWrongFalsely : Prop := squeezeAgainRow.holds Try.pinned (OpenSpec.ofChange squeezeAgainWrong)

/- THE SECOND FORM. 'bulk': how many values and letters a reading holds, each counted each time it is reached (what is shared counts as often as it is met; a slice's spare places count too). A statement '..UptoSaid' is the law's where the arguments, and the package variables that the reading takes, are together of bulk at most 1048576: NARROWER than '..Said'. Prove '..Said' where nothing that the law and all that it calls make is longer than what came in: it says more and counts as full. Else prove '..UptoSaid'. A law counts once. -/
mutual
def uptoBulk {H : Type} : DataW H → Nat
  | .lit (.string bytes) => bytes.length + 1
  | .lit _ => 1
  | .nil => 1
  | .ptr d => uptoBulk d + 1
  | .slice elems spare => uptoBulkAll elems + uptoBulkAll spare + 1
  | .agg parts => uptoBulkAll parts + 1
  | .iface _ d => uptoBulk d + 1
  | .map entries => uptoBulkEntries entries + 1
  | .held _ => 1
def uptoBulkAll {H : Type} : List (DataW H) → Nat
  | [] => 0
  | d :: r => uptoBulk d + uptoBulkAll r
def uptoBulkEntries {H : Type} : List (Lit × DataW H) → Nat
  | [] => 0
  | x :: r => uptoBulkEntry x + uptoBulkEntries r
def uptoBulkEntry {H : Type} : Lit × DataW H → Nat
  | (.string bytes, d) => bytes.length + uptoBulk d + 1
  | (_, d) => uptoBulk d + 1
 end
def uptoSmall : (H : Type) → List (DataW H) → Bool := fun _ ds => decide (uptoBulkAll ds ≤ 1048576)
def OpenSpec.upto (s : _root_.Go.ChangeSpec) : _root_.Go.OpenSpec := { _root_.Go.OpenSpec.ofChange s with cond := some uptoSmall }

/-- 'panicroadkeep.PanicsMemory', WHERE WHAT IT READS IS OF BULK AT MOST 1048576: true; the input reads as it did. -/
def panicsMemoryUptoRow : OpenClaim := { program := "ytiicdknmoakocaa", sum := "f135c206e70bd78dcc0da08ab9414a6e09ad13aa5461a78d59eef8ca4de3e446", func := "panicroad/panicroadkeep.PanicsMemory", spec := "panicsMemory", apart := false, narrowed := true }
def PanicsMemoryUptoSaid : Prop := panicsMemoryUptoRow.holds Try.pinned (OpenSpec.upto panicsMemorySpec)

/-- 'panicroadkeep.ReportBack', WHERE WHAT IT READS IS OF BULK AT MOST 1048576: true; the input reads as it did. -/
def reportBackUptoRow : OpenClaim := { program := "ytiicdknmoakocaa", sum := "f135c206e70bd78dcc0da08ab9414a6e09ad13aa5461a78d59eef8ca4de3e446", func := "panicroad/panicroadkeep.ReportBack", spec := "reportBack", inPlace := ["internal/abi.NoEscape", "internal/bytealg.IndexByteString", "internal/bytealg.IndexString"], named := ["internal/bytealg.MaxLen"], apart := false, narrowed := true }
def ReportBackUptoSaid : Prop := reportBackUptoRow.holds Try.pinned (OpenSpec.upto reportBackSpec)

/-- 'panicroadkeep.ImageMemory', WHERE WHAT IT READS IS OF BULK AT MOST 1048576: true; the input reads as it did. -/
def imageMemoryUptoRow : OpenClaim := { program := "ytiicdknmoakocaa", sum := "f135c206e70bd78dcc0da08ab9414a6e09ad13aa5461a78d59eef8ca4de3e446", func := "panicroad/panicroadkeep.ImageMemory", spec := "imageMemory", inPlace := ["internal/bytealg.IndexByteString"], unfollowed := true, recurses := true, apart := false, narrowed := true }
def ImageMemoryUptoSaid : Prop := imageMemoryUptoRow.holds Try.pinned (OpenSpec.upto imageMemorySpec)

/-- 'panicroadkeep.SqueezeMemory', WHERE WHAT IT READS IS OF BULK AT MOST 1048576: true; the input reads as it did. -/
def squeezeMemoryUptoRow : OpenClaim := { program := "ytiicdknmoakocaa", sum := "f135c206e70bd78dcc0da08ab9414a6e09ad13aa5461a78d59eef8ca4de3e446", func := "panicroad/panicroadkeep.SqueezeMemory", spec := "squeezeMemory", inPlace := ["internal/bytealg.IndexByteString"], unfollowed := true, recurses := true, apart := false, narrowed := true }
def SqueezeMemoryUptoSaid : Prop := squeezeMemoryUptoRow.holds Try.pinned (OpenSpec.upto squeezeMemorySpec)

/-- 'panicroadkeep.SqueezeAgain', WHERE WHAT IT READS IS OF BULK AT MOST 1048576: true; the input reads as it did. -/
def squeezeAgainUptoRow : OpenClaim := { program := "ytiicdknmoakocaa", sum := "f135c206e70bd78dcc0da08ab9414a6e09ad13aa5461a78d59eef8ca4de3e446", func := "panicroad/panicroadkeep.SqueezeAgain", spec := "squeezeAgain", inPlace := ["internal/bytealg.IndexByteString"], unfollowed := true, recurses := true, apart := false, narrowed := true }
def SqueezeAgainUptoSaid : Prop := squeezeAgainUptoRow.holds Try.pinned (OpenSpec.upto squeezeAgainSpec)

end Rows
end Go.Proofs.Ytiicdknmoakocaa
