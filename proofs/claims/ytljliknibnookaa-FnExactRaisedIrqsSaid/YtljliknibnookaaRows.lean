/-
  No cell of these rows narrows 'for every input' (looked for: loops, veiled, ifaces, maps, wideKeys, modest, calm, conditions, laid).
  DERIVED. THE GIVEN ROWS OF THIS SEAT. 12 by the template 'for every input the law returns true; each argument reads behind the call as it read before'; 0 by the template 'total and deterministic' (their statements: YtljliknibnookaaTotals.lean).
  GIVEN WITH THE SEED: the statements are not yours to turn. If you find one false, say at which input.
  Laid BY PROGRAM, IN A SANDBOX (cutbox-rows.mjs): the forced cells as the released guide's own fill.sh prints them over the translation 00aad74e4e1b06dc… (all of the seat's roots in one cut). By AI agents, Wed Nov 11 2026. No macro, syntax, notation, axiom, sorry.
-/
import Derived.Test.YtljliknibnookaaChecked
import GoSem.Claim
import GoSem.ClaimJoined
import GoSem.ClaimMapViews
import Derived.JoinedTies
import Derived.KernelRfl
namespace Go.Proofs.Ytljliknibnookaa
/- THE CELL 'sum', in the pinned program and in every row, IS THE sha256 OF THE DUMP (.gsa) THAT YtljliknibnookaaProg.lean LOADS. Nothing in Lean hashes anything: it is a label: what it is worth is what the hold of that sum in a sandbox is worth. -/
noncomputable def Try.pinned : Pinned := { name := "ytljliknibnookaa", sum := "00aad74e4e1b06dc349ee180990a7dbb46e76384bfbc25764e8e3b8f51b72609", checked := Try.checked }
namespace Rows
def none {H : Type} : Left H := { results := [], args := [] }

/-- 'laws.FnExactIsLine': WHATEVER THE INPUT: true; the input reads as it did. -/
def fnExactIsLineSpec : ChangeSpec := { name := "fnExactIsLine", fn := fun _ => fun
  | [d] => { results := [.lit (.bool true)], args := [d] }
  | _ => none }
def fnExactIsLineRow : OpenClaim := { program := "ytljliknibnookaa", sum := "00aad74e4e1b06dc349ee180990a7dbb46e76384bfbc25764e8e3b8f51b72609", func := "loop.example/g00843/laws.FnExactIsLine", spec := "fnExactIsLine", apart := false }
def FnExactIsLineSaid : Prop := fnExactIsLineRow.holds Try.pinned (OpenSpec.ofChange fnExactIsLineSpec)

/-- ITS FALSE NEIGHBOUR: 'it returns false'. Refute it at one input. -/
def fnExactIsLineWrong : ChangeSpec := { name := "fnExactIsLine", fn := fun _ => fun
  | [d] => { results := [.lit (.bool false)], args := [d] }
  | _ => none }
def FnExactIsLineWrongFalsely : Prop := fnExactIsLineRow.holds Try.pinned (OpenSpec.ofChange fnExactIsLineWrong)

/-- 'laws.FnExactTakeLine': WHATEVER THE INPUT: true; the input reads as it did. -/
def fnExactTakeLineSpec : ChangeSpec := { name := "fnExactTakeLine", fn := fun _ => fun
  | [d] => { results := [.lit (.bool true)], args := [d] }
  | _ => none }
def fnExactTakeLineRow : OpenClaim := { program := "ytljliknibnookaa", sum := "00aad74e4e1b06dc349ee180990a7dbb46e76384bfbc25764e8e3b8f51b72609", func := "loop.example/g00843/laws.FnExactTakeLine", spec := "fnExactTakeLine", apart := false }
def FnExactTakeLineSaid : Prop := fnExactTakeLineRow.holds Try.pinned (OpenSpec.ofChange fnExactTakeLineSpec)

/-- ITS FALSE NEIGHBOUR: 'it returns false'. Refute it at one input. -/
def fnExactTakeLineWrong : ChangeSpec := { name := "fnExactTakeLine", fn := fun _ => fun
  | [d] => { results := [.lit (.bool false)], args := [d] }
  | _ => none }
def FnExactTakeLineWrongFalsely : Prop := fnExactTakeLineRow.holds Try.pinned (OpenSpec.ofChange fnExactTakeLineWrong)

/-- 'laws.FnExactDriveLine': WHATEVER THE INPUT: true; the input reads as it did. -/
def fnExactDriveLineSpec : ChangeSpec := { name := "fnExactDriveLine", fn := fun _ => fun
  | [d1, d2] => { results := [.lit (.bool true)], args := [d1, d2] }
  | _ => none }
def fnExactDriveLineRow : OpenClaim := { program := "ytljliknibnookaa", sum := "00aad74e4e1b06dc349ee180990a7dbb46e76384bfbc25764e8e3b8f51b72609", func := "loop.example/g00843/laws.FnExactDriveLine", spec := "fnExactDriveLine", apart := false }
def FnExactDriveLineSaid : Prop := fnExactDriveLineRow.holds Try.pinned (OpenSpec.ofChange fnExactDriveLineSpec)

/-- ITS FALSE NEIGHBOUR: 'it returns false'. Refute it at one input. -/
def fnExactDriveLineWrong : ChangeSpec := { name := "fnExactDriveLine", fn := fun _ => fun
  | [d1, d2] => { results := [.lit (.bool false)], args := [d1, d2] }
  | _ => none }
def FnExactDriveLineWrongFalsely : Prop := fnExactDriveLineRow.holds Try.pinned (OpenSpec.ofChange fnExactDriveLineWrong)

/-- 'laws.FnExactAreLines': WHATEVER THE INPUT: true; the input reads as it did. -/
def fnExactAreLinesSpec : ChangeSpec := { name := "fnExactAreLines", fn := fun _ => fun
  | [d] => { results := [.lit (.bool true)], args := [d] }
  | _ => none }
def fnExactAreLinesRow : OpenClaim := { program := "ytljliknibnookaa", sum := "00aad74e4e1b06dc349ee180990a7dbb46e76384bfbc25764e8e3b8f51b72609", func := "loop.example/g00843/laws.FnExactAreLines", spec := "fnExactAreLines", unfollowed := true, recurses := true, apart := false }
def FnExactAreLinesSaid : Prop := fnExactAreLinesRow.holds Try.pinned (OpenSpec.ofChange fnExactAreLinesSpec)

/-- ITS FALSE NEIGHBOUR: 'it returns false'. Refute it at one input. -/
def fnExactAreLinesWrong : ChangeSpec := { name := "fnExactAreLines", fn := fun _ => fun
  | [d] => { results := [.lit (.bool false)], args := [d] }
  | _ => none }
def FnExactAreLinesWrongFalsely : Prop := fnExactAreLinesRow.holds Try.pinned (OpenSpec.ofChange fnExactAreLinesWrong)

/-- 'laws.FnExactPulseLine': WHATEVER THE INPUT: true; the input reads as it did. -/
def fnExactPulseLineSpec : ChangeSpec := { name := "fnExactPulseLine", fn := fun _ => fun
  | [d1, d2, d3] => { results := [.lit (.bool true)], args := [d1, d2, d3] }
  | _ => none }
def fnExactPulseLineRow : OpenClaim := { program := "ytljliknibnookaa", sum := "00aad74e4e1b06dc349ee180990a7dbb46e76384bfbc25764e8e3b8f51b72609", func := "loop.example/g00843/laws.FnExactPulseLine", spec := "fnExactPulseLine", unfollowed := true, recurses := true, apart := false }
def FnExactPulseLineSaid : Prop := fnExactPulseLineRow.holds Try.pinned (OpenSpec.ofChange fnExactPulseLineSpec)

/-- ITS FALSE NEIGHBOUR: 'it returns false'. Refute it at one input. -/
def fnExactPulseLineWrong : ChangeSpec := { name := "fnExactPulseLine", fn := fun _ => fun
  | [d1, d2, d3] => { results := [.lit (.bool false)], args := [d1, d2, d3] }
  | _ => none }
def FnExactPulseLineWrongFalsely : Prop := fnExactPulseLineRow.holds Try.pinned (OpenSpec.ofChange fnExactPulseLineWrong)

/-- 'laws.FnExactTakeLines': WHATEVER THE INPUT: true; the input reads as it did. -/
def fnExactTakeLinesSpec : ChangeSpec := { name := "fnExactTakeLines", fn := fun _ => fun
  | [d1, d2] => { results := [.lit (.bool true)], args := [d1, d2] }
  | _ => none }
def fnExactTakeLinesRow : OpenClaim := { program := "ytljliknibnookaa", sum := "00aad74e4e1b06dc349ee180990a7dbb46e76384bfbc25764e8e3b8f51b72609", func := "loop.example/g00843/laws.FnExactTakeLines", spec := "fnExactTakeLines", unfollowed := true, recurses := true, apart := false }
def FnExactTakeLinesSaid : Prop := fnExactTakeLinesRow.holds Try.pinned (OpenSpec.ofChange fnExactTakeLinesSpec)

/-- ITS FALSE NEIGHBOUR: 'it returns false'. Refute it at one input. -/
def fnExactTakeLinesWrong : ChangeSpec := { name := "fnExactTakeLines", fn := fun _ => fun
  | [d1, d2] => { results := [.lit (.bool false)], args := [d1, d2] }
  | _ => none }
def FnExactTakeLinesWrongFalsely : Prop := fnExactTakeLinesRow.holds Try.pinned (OpenSpec.ofChange fnExactTakeLinesWrong)

/-- 'laws.FnExactSharedIrqs': WHATEVER THE INPUT: true; the input reads as it did. -/
def fnExactSharedIrqsSpec : ChangeSpec := { name := "fnExactSharedIrqs", fn := fun _ => fun
  | [d] => { results := [.lit (.bool true)], args := [d] }
  | _ => none }
def fnExactSharedIrqsRow : OpenClaim := { program := "ytljliknibnookaa", sum := "00aad74e4e1b06dc349ee180990a7dbb46e76384bfbc25764e8e3b8f51b72609", func := "loop.example/g00843/laws.FnExactSharedIrqs", spec := "fnExactSharedIrqs", unfollowed := true, recurses := true, apart := false }
def FnExactSharedIrqsSaid : Prop := fnExactSharedIrqsRow.holds Try.pinned (OpenSpec.ofChange fnExactSharedIrqsSpec)

/-- ITS FALSE NEIGHBOUR: 'it returns false'. Refute it at one input. -/
def fnExactSharedIrqsWrong : ChangeSpec := { name := "fnExactSharedIrqs", fn := fun _ => fun
  | [d] => { results := [.lit (.bool false)], args := [d] }
  | _ => none }
def FnExactSharedIrqsWrongFalsely : Prop := fnExactSharedIrqsRow.holds Try.pinned (OpenSpec.ofChange fnExactSharedIrqsWrong)

/-- 'laws.FnExactMixedIrqs': WHATEVER THE INPUT: true; the input reads as it did. -/
def fnExactMixedIrqsSpec : ChangeSpec := { name := "fnExactMixedIrqs", fn := fun _ => fun
  | [d] => { results := [.lit (.bool true)], args := [d] }
  | _ => none }
def fnExactMixedIrqsRow : OpenClaim := { program := "ytljliknibnookaa", sum := "00aad74e4e1b06dc349ee180990a7dbb46e76384bfbc25764e8e3b8f51b72609", func := "loop.example/g00843/laws.FnExactMixedIrqs", spec := "fnExactMixedIrqs", unfollowed := true, recurses := true, apart := false }
def FnExactMixedIrqsSaid : Prop := fnExactMixedIrqsRow.holds Try.pinned (OpenSpec.ofChange fnExactMixedIrqsSpec)

/-- ITS FALSE NEIGHBOUR: 'it returns false'. Refute it at one input. -/
def fnExactMixedIrqsWrong : ChangeSpec := { name := "fnExactMixedIrqs", fn := fun _ => fun
  | [d] => { results := [.lit (.bool false)], args := [d] }
  | _ => none }
def FnExactMixedIrqsWrongFalsely : Prop := fnExactMixedIrqsRow.holds Try.pinned (OpenSpec.ofChange fnExactMixedIrqsWrong)

/-- 'laws.FnExactRaisedIrqs': WHATEVER THE INPUT: true; the input reads as it did. -/
def fnExactRaisedIrqsSpec : ChangeSpec := { name := "fnExactRaisedIrqs", fn := fun _ => fun
  | [d] => { results := [.lit (.bool true)], args := [d] }
  | _ => none }
def fnExactRaisedIrqsRow : OpenClaim := { program := "ytljliknibnookaa", sum := "00aad74e4e1b06dc349ee180990a7dbb46e76384bfbc25764e8e3b8f51b72609", func := "loop.example/g00843/laws.FnExactRaisedIrqs", spec := "fnExactRaisedIrqs", unfollowed := true, recurses := true, apart := false }
def FnExactRaisedIrqsSaid : Prop := fnExactRaisedIrqsRow.holds Try.pinned (OpenSpec.ofChange fnExactRaisedIrqsSpec)

/-- ITS FALSE NEIGHBOUR: 'it returns false'. Refute it at one input. -/
def fnExactRaisedIrqsWrong : ChangeSpec := { name := "fnExactRaisedIrqs", fn := fun _ => fun
  | [d] => { results := [.lit (.bool false)], args := [d] }
  | _ => none }
def FnExactRaisedIrqsWrongFalsely : Prop := fnExactRaisedIrqsRow.holds Try.pinned (OpenSpec.ofChange fnExactRaisedIrqsWrong)

/-- 'laws.FnExactDriveLines': WHATEVER THE INPUT: true; the input reads as it did. -/
def fnExactDriveLinesSpec : ChangeSpec := { name := "fnExactDriveLines", fn := fun _ => fun
  | [d1, d2] => { results := [.lit (.bool true)], args := [d1, d2] }
  | _ => none }
def fnExactDriveLinesRow : OpenClaim := { program := "ytljliknibnookaa", sum := "00aad74e4e1b06dc349ee180990a7dbb46e76384bfbc25764e8e3b8f51b72609", func := "loop.example/g00843/laws.FnExactDriveLines", spec := "fnExactDriveLines", unfollowed := true, recurses := true, apart := false }
def FnExactDriveLinesSaid : Prop := fnExactDriveLinesRow.holds Try.pinned (OpenSpec.ofChange fnExactDriveLinesSpec)

/-- ITS FALSE NEIGHBOUR: 'it returns false'. Refute it at one input. -/
def fnExactDriveLinesWrong : ChangeSpec := { name := "fnExactDriveLines", fn := fun _ => fun
  | [d1, d2] => { results := [.lit (.bool false)], args := [d1, d2] }
  | _ => none }
def FnExactDriveLinesWrongFalsely : Prop := fnExactDriveLinesRow.holds Try.pinned (OpenSpec.ofChange fnExactDriveLinesWrong)

/-- 'laws.FnLines': WHATEVER THE INPUT: true; the input reads as it did. -/
def fnLinesSpec : ChangeSpec := { name := "fnLines", fn := fun _ => fun
  | [d] => { results := [.lit (.bool true)], args := [d] }
  | _ => none }
def fnLinesRow : OpenClaim := { program := "ytljliknibnookaa", sum := "00aad74e4e1b06dc349ee180990a7dbb46e76384bfbc25764e8e3b8f51b72609", func := "loop.example/g00843/laws.FnLines", spec := "fnLines", unfollowed := true, recurses := true, apart := false }
def FnLinesSaid : Prop := fnLinesRow.holds Try.pinned (OpenSpec.ofChange fnLinesSpec)

/-- ITS FALSE NEIGHBOUR: 'it returns false'. Refute it at one input. -/
def fnLinesWrong : ChangeSpec := { name := "fnLines", fn := fun _ => fun
  | [d] => { results := [.lit (.bool false)], args := [d] }
  | _ => none }
def FnLinesWrongFalsely : Prop := fnLinesRow.holds Try.pinned (OpenSpec.ofChange fnLinesWrong)

/-- 'laws.FnLineIrqs': WHATEVER THE INPUT: true; the input reads as it did. -/
def fnLineIrqsSpec : ChangeSpec := { name := "fnLineIrqs", fn := fun _ => fun
  | [d] => { results := [.lit (.bool true)], args := [d] }
  | _ => none }
def fnLineIrqsRow : OpenClaim := { program := "ytljliknibnookaa", sum := "00aad74e4e1b06dc349ee180990a7dbb46e76384bfbc25764e8e3b8f51b72609", func := "loop.example/g00843/laws.FnLineIrqs", spec := "fnLineIrqs", unfollowed := true, recurses := true, apart := false }
def FnLineIrqsSaid : Prop := fnLineIrqsRow.holds Try.pinned (OpenSpec.ofChange fnLineIrqsSpec)

/-- ITS FALSE NEIGHBOUR: 'it returns false'. Refute it at one input. -/
def fnLineIrqsWrong : ChangeSpec := { name := "fnLineIrqs", fn := fun _ => fun
  | [d] => { results := [.lit (.bool false)], args := [d] }
  | _ => none }
def FnLineIrqsWrongFalsely : Prop := fnLineIrqsRow.holds Try.pinned (OpenSpec.ofChange fnLineIrqsWrong)

/- THE SECOND FORM. 'bulk': how many values and letters a reading holds, each counted each time it is reached (what is shared counts as often as it is met; a slice's spare places count too). A statement '..UptoSaid' is the law's where the arguments, and the package variables that the reading takes, are together of bulk at most 1048576: NARROWER than '..Said'. Prove '..Said' where nothing that the law and all that it calls make is longer than what came in: it says more and counts as full. Else prove '..UptoSaid'. A law counts once. -/
mutual
def uptoBulk {H : Type} : DataW H → Nat
  | .lit (.string bytes) => bytes.length + 1
  | .lit _ => 1
  | .nil => 1
  | .ptr d => uptoBulk d + 1
  | .slice elems spare => uptoBulkAll elems + uptoBulkAll spare + 1
  | .agg parts => uptoBulkAll parts + 1
  | .iface _ d => uptoBulk d + 1
  | .map entries => uptoBulkEntries entries + 1
  | .held _ => 1
def uptoBulkAll {H : Type} : List (DataW H) → Nat
  | [] => 0
  | d :: r => uptoBulk d + uptoBulkAll r
def uptoBulkEntries {H : Type} : List (Lit × DataW H) → Nat
  | [] => 0
  | x :: r => uptoBulkEntry x + uptoBulkEntries r
def uptoBulkEntry {H : Type} : Lit × DataW H → Nat
  | (.string bytes, d) => bytes.length + uptoBulk d + 1
  | (_, d) => uptoBulk d + 1
 end
def uptoSmall : (H : Type) → List (DataW H) → Bool := fun _ ds => decide (uptoBulkAll ds ≤ 1048576)
def OpenSpec.upto (s : _root_.Go.ChangeSpec) : _root_.Go.OpenSpec := { _root_.Go.OpenSpec.ofChange s with cond := some uptoSmall }

/-- 'laws.FnExactIsLine', WHERE WHAT IT READS IS OF BULK AT MOST 1048576: true; the input reads as it did. -/
def fnExactIsLineUptoRow : OpenClaim := { program := "ytljliknibnookaa", sum := "00aad74e4e1b06dc349ee180990a7dbb46e76384bfbc25764e8e3b8f51b72609", func := "loop.example/g00843/laws.FnExactIsLine", spec := "fnExactIsLine", apart := false, narrowed := true }
def FnExactIsLineUptoSaid : Prop := fnExactIsLineUptoRow.holds Try.pinned (OpenSpec.upto fnExactIsLineSpec)

/-- 'laws.FnExactTakeLine', WHERE WHAT IT READS IS OF BULK AT MOST 1048576: true; the input reads as it did. -/
def fnExactTakeLineUptoRow : OpenClaim := { program := "ytljliknibnookaa", sum := "00aad74e4e1b06dc349ee180990a7dbb46e76384bfbc25764e8e3b8f51b72609", func := "loop.example/g00843/laws.FnExactTakeLine", spec := "fnExactTakeLine", apart := false, narrowed := true }
def FnExactTakeLineUptoSaid : Prop := fnExactTakeLineUptoRow.holds Try.pinned (OpenSpec.upto fnExactTakeLineSpec)

/-- 'laws.FnExactDriveLine', WHERE WHAT IT READS IS OF BULK AT MOST 1048576: true; the input reads as it did. -/
def fnExactDriveLineUptoRow : OpenClaim := { program := "ytljliknibnookaa", sum := "00aad74e4e1b06dc349ee180990a7dbb46e76384bfbc25764e8e3b8f51b72609", func := "loop.example/g00843/laws.FnExactDriveLine", spec := "fnExactDriveLine", apart := false, narrowed := true }
def FnExactDriveLineUptoSaid : Prop := fnExactDriveLineUptoRow.holds Try.pinned (OpenSpec.upto fnExactDriveLineSpec)

/-- 'laws.FnExactAreLines', WHERE WHAT IT READS IS OF BULK AT MOST 1048576: true; the input reads as it did. -/
def fnExactAreLinesUptoRow : OpenClaim := { program := "ytljliknibnookaa", sum := "00aad74e4e1b06dc349ee180990a7dbb46e76384bfbc25764e8e3b8f51b72609", func := "loop.example/g00843/laws.FnExactAreLines", spec := "fnExactAreLines", unfollowed := true, recurses := true, apart := false, narrowed := true }
def FnExactAreLinesUptoSaid : Prop := fnExactAreLinesUptoRow.holds Try.pinned (OpenSpec.upto fnExactAreLinesSpec)

/-- 'laws.FnExactPulseLine', WHERE WHAT IT READS IS OF BULK AT MOST 1048576: true; the input reads as it did. -/
def fnExactPulseLineUptoRow : OpenClaim := { program := "ytljliknibnookaa", sum := "00aad74e4e1b06dc349ee180990a7dbb46e76384bfbc25764e8e3b8f51b72609", func := "loop.example/g00843/laws.FnExactPulseLine", spec := "fnExactPulseLine", unfollowed := true, recurses := true, apart := false, narrowed := true }
def FnExactPulseLineUptoSaid : Prop := fnExactPulseLineUptoRow.holds Try.pinned (OpenSpec.upto fnExactPulseLineSpec)

/-- 'laws.FnExactTakeLines', WHERE WHAT IT READS IS OF BULK AT MOST 1048576: true; the input reads as it did. -/
def fnExactTakeLinesUptoRow : OpenClaim := { program := "ytljliknibnookaa", sum := "00aad74e4e1b06dc349ee180990a7dbb46e76384bfbc25764e8e3b8f51b72609", func := "loop.example/g00843/laws.FnExactTakeLines", spec := "fnExactTakeLines", unfollowed := true, recurses := true, apart := false, narrowed := true }
def FnExactTakeLinesUptoSaid : Prop := fnExactTakeLinesUptoRow.holds Try.pinned (OpenSpec.upto fnExactTakeLinesSpec)

/-- 'laws.FnExactSharedIrqs', WHERE WHAT IT READS IS OF BULK AT MOST 1048576: true; the input reads as it did. -/
def fnExactSharedIrqsUptoRow : OpenClaim := { program := "ytljliknibnookaa", sum := "00aad74e4e1b06dc349ee180990a7dbb46e76384bfbc25764e8e3b8f51b72609", func := "loop.example/g00843/laws.FnExactSharedIrqs", spec := "fnExactSharedIrqs", unfollowed := true, recurses := true, apart := false, narrowed := true }
def FnExactSharedIrqsUptoSaid : Prop := fnExactSharedIrqsUptoRow.holds Try.pinned (OpenSpec.upto fnExactSharedIrqsSpec)

/-- 'laws.FnExactMixedIrqs', WHERE WHAT IT READS IS OF BULK AT MOST 1048576: true; the input reads as it did. -/
def fnExactMixedIrqsUptoRow : OpenClaim := { program := "ytljliknibnookaa", sum := "00aad74e4e1b06dc349ee180990a7dbb46e76384bfbc25764e8e3b8f51b72609", func := "loop.example/g00843/laws.FnExactMixedIrqs", spec := "fnExactMixedIrqs", unfollowed := true, recurses := true, apart := false, narrowed := true }
def FnExactMixedIrqsUptoSaid : Prop := fnExactMixedIrqsUptoRow.holds Try.pinned (OpenSpec.upto fnExactMixedIrqsSpec)

/-- 'laws.FnExactRaisedIrqs', WHERE WHAT IT READS IS OF BULK AT MOST 1048576: true; the input reads as it did. -/
def fnExactRaisedIrqsUptoRow : OpenClaim := { program := "ytljliknibnookaa", sum := "00aad74e4e1b06dc349ee180990a7dbb46e76384bfbc25764e8e3b8f51b72609", func := "loop.example/g00843/laws.FnExactRaisedIrqs", spec := "fnExactRaisedIrqs", unfollowed := true, recurses := true, apart := false, narrowed := true }
def FnExactRaisedIrqsUptoSaid : Prop := fnExactRaisedIrqsUptoRow.holds Try.pinned (OpenSpec.upto fnExactRaisedIrqsSpec)

/-- 'laws.FnExactDriveLines', WHERE WHAT IT READS IS OF BULK AT MOST 1048576: true; the input reads as it did. -/
def fnExactDriveLinesUptoRow : OpenClaim := { program := "ytljliknibnookaa", sum := "00aad74e4e1b06dc349ee180990a7dbb46e76384bfbc25764e8e3b8f51b72609", func := "loop.example/g00843/laws.FnExactDriveLines", spec := "fnExactDriveLines", unfollowed := true, recurses := true, apart := false, narrowed := true }
def FnExactDriveLinesUptoSaid : Prop := fnExactDriveLinesUptoRow.holds Try.pinned (OpenSpec.upto fnExactDriveLinesSpec)

/-- 'laws.FnLines', WHERE WHAT IT READS IS OF BULK AT MOST 1048576: true; the input reads as it did. -/
def fnLinesUptoRow : OpenClaim := { program := "ytljliknibnookaa", sum := "00aad74e4e1b06dc349ee180990a7dbb46e76384bfbc25764e8e3b8f51b72609", func := "loop.example/g00843/laws.FnLines", spec := "fnLines", unfollowed := true, recurses := true, apart := false, narrowed := true }
def FnLinesUptoSaid : Prop := fnLinesUptoRow.holds Try.pinned (OpenSpec.upto fnLinesSpec)

/-- 'laws.FnLineIrqs', WHERE WHAT IT READS IS OF BULK AT MOST 1048576: true; the input reads as it did. -/
def fnLineIrqsUptoRow : OpenClaim := { program := "ytljliknibnookaa", sum := "00aad74e4e1b06dc349ee180990a7dbb46e76384bfbc25764e8e3b8f51b72609", func := "loop.example/g00843/laws.FnLineIrqs", spec := "fnLineIrqs", unfollowed := true, recurses := true, apart := false, narrowed := true }
def FnLineIrqsUptoSaid : Prop := fnLineIrqsUptoRow.holds Try.pinned (OpenSpec.upto fnLineIrqsSpec)

end Rows
end Go.Proofs.Ytljliknibnookaa
