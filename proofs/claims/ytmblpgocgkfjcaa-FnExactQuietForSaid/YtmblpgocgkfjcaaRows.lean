/-
  No cell of these rows narrows 'for every input' (looked for: loops, veiled, ifaces, maps, wideKeys, modest, calm, conditions, laid).
  DERIVED. THE GIVEN ROWS OF THIS SEAT. 9 by the template 'for every input the law returns true; each argument reads behind the call as it read before'; 0 by the template 'total and deterministic' (their statements: YtmblpgocgkfjcaaTotals.lean).
  GIVEN WITH THE SEED: the statements are not yours to turn. If you find one false, say at which input.
  Laid BY PROGRAM, IN A SANDBOX (cutbox-rows.mjs): the forced cells as the released guide's own fill.sh prints them over the translation 001649e0974f383b… (all of the seat's roots in one cut). By AI agents, Wed Nov 11 2026. No macro, syntax, notation, axiom, sorry.
-/
import Derived.Test.YtmblpgocgkfjcaaChecked
import GoSem.Claim
import GoSem.ClaimJoined
import GoSem.ClaimMapViews
import Derived.JoinedTies
import Derived.KernelRfl
namespace Go.Proofs.Ytmblpgocgkfjcaa
/- THE CELL 'sum', in the pinned program and in every row, IS THE sha256 OF THE DUMP (.gsa) THAT YtmblpgocgkfjcaaProg.lean LOADS. Nothing in Lean hashes anything: it is a label: what it is worth is what the hold of that sum in a sandbox is worth. -/
noncomputable def Try.pinned : Pinned := { name := "ytmblpgocgkfjcaa", sum := "001649e0974f383b673b33f598c3d7b9273b97fd166b752d1b2e14258e9d5a80", checked := Try.checked }
namespace Rows
def none {H : Type} : Left H := { results := [], args := [] }

/-- 'laws.FnExactIsTimer': WHATEVER THE INPUT: true; the input reads as it did. -/
def fnExactIsTimerSpec : ChangeSpec := { name := "fnExactIsTimer", fn := fun _ => fun
  | [d] => { results := [.lit (.bool true)], args := [d] }
  | _ => none }
def fnExactIsTimerRow : OpenClaim := { program := "ytmblpgocgkfjcaa", sum := "001649e0974f383b673b33f598c3d7b9273b97fd166b752d1b2e14258e9d5a80", func := "loop.example/g00843/laws.FnExactIsTimer", spec := "fnExactIsTimer", apart := false }
def FnExactIsTimerSaid : Prop := fnExactIsTimerRow.holds Try.pinned (OpenSpec.ofChange fnExactIsTimerSpec)

/-- ITS FALSE NEIGHBOUR: 'it returns false'. Refute it at one input. -/
def fnExactIsTimerWrong : ChangeSpec := { name := "fnExactIsTimer", fn := fun _ => fun
  | [d] => { results := [.lit (.bool false)], args := [d] }
  | _ => none }
def FnExactIsTimerWrongFalsely : Prop := fnExactIsTimerRow.holds Try.pinned (OpenSpec.ofChange fnExactIsTimerWrong)

/-- 'laws.FnExactFiresUpTo': WHATEVER THE INPUT: true; the input reads as it did. -/
def fnExactFiresUpToSpec : ChangeSpec := { name := "fnExactFiresUpTo", fn := fun _ => fun
  | [d1, d2] => { results := [.lit (.bool true)], args := [d1, d2] }
  | _ => none }
def fnExactFiresUpToRow : OpenClaim := { program := "ytmblpgocgkfjcaa", sum := "001649e0974f383b673b33f598c3d7b9273b97fd166b752d1b2e14258e9d5a80", func := "loop.example/g00843/laws.FnExactFiresUpTo", spec := "fnExactFiresUpTo", apart := false }
def FnExactFiresUpToSaid : Prop := fnExactFiresUpToRow.holds Try.pinned (OpenSpec.ofChange fnExactFiresUpToSpec)

/-- ITS FALSE NEIGHBOUR: 'it returns false'. Refute it at one input. -/
def fnExactFiresUpToWrong : ChangeSpec := { name := "fnExactFiresUpTo", fn := fun _ => fun
  | [d1, d2] => { results := [.lit (.bool false)], args := [d1, d2] }
  | _ => none }
def FnExactFiresUpToWrongFalsely : Prop := fnExactFiresUpToRow.holds Try.pinned (OpenSpec.ofChange fnExactFiresUpToWrong)

/-- 'laws.FnExactAreTimers': WHATEVER THE INPUT: true; the input reads as it did. -/
def fnExactAreTimersSpec : ChangeSpec := { name := "fnExactAreTimers", fn := fun _ => fun
  | [d] => { results := [.lit (.bool true)], args := [d] }
  | _ => none }
def fnExactAreTimersRow : OpenClaim := { program := "ytmblpgocgkfjcaa", sum := "001649e0974f383b673b33f598c3d7b9273b97fd166b752d1b2e14258e9d5a80", func := "loop.example/g00843/laws.FnExactAreTimers", spec := "fnExactAreTimers", unfollowed := true, recurses := true, apart := false }
def FnExactAreTimersSaid : Prop := fnExactAreTimersRow.holds Try.pinned (OpenSpec.ofChange fnExactAreTimersSpec)

/-- ITS FALSE NEIGHBOUR: 'it returns false'. Refute it at one input. -/
def fnExactAreTimersWrong : ChangeSpec := { name := "fnExactAreTimers", fn := fun _ => fun
  | [d] => { results := [.lit (.bool false)], args := [d] }
  | _ => none }
def FnExactAreTimersWrongFalsely : Prop := fnExactAreTimersRow.holds Try.pinned (OpenSpec.ofChange fnExactAreTimersWrong)

/-- 'laws.FnExactNextToFire': WHATEVER THE INPUT: true; the input reads as it did. -/
def fnExactNextToFireSpec : ChangeSpec := { name := "fnExactNextToFire", fn := fun _ => fun
  | [d] => { results := [.lit (.bool true)], args := [d] }
  | _ => none }
def fnExactNextToFireRow : OpenClaim := { program := "ytmblpgocgkfjcaa", sum := "001649e0974f383b673b33f598c3d7b9273b97fd166b752d1b2e14258e9d5a80", func := "loop.example/g00843/laws.FnExactNextToFire", spec := "fnExactNextToFire", unfollowed := true, recurses := true, apart := false }
def FnExactNextToFireSaid : Prop := fnExactNextToFireRow.holds Try.pinned (OpenSpec.ofChange fnExactNextToFireSpec)

/-- ITS FALSE NEIGHBOUR: 'it returns false'. Refute it at one input. -/
def fnExactNextToFireWrong : ChangeSpec := { name := "fnExactNextToFire", fn := fun _ => fun
  | [d] => { results := [.lit (.bool false)], args := [d] }
  | _ => none }
def FnExactNextToFireWrongFalsely : Prop := fnExactNextToFireRow.holds Try.pinned (OpenSpec.ofChange fnExactNextToFireWrong)

/-- 'laws.FnExactArmTimer': WHATEVER THE INPUT: true; the input reads as it did. -/
def fnExactArmTimerSpec : ChangeSpec := { name := "fnExactArmTimer", fn := fun _ => fun
  | [d1, d2, d3, d4] => { results := [.lit (.bool true)], args := [d1, d2, d3, d4] }
  | _ => none }
def fnExactArmTimerRow : OpenClaim := { program := "ytmblpgocgkfjcaa", sum := "001649e0974f383b673b33f598c3d7b9273b97fd166b752d1b2e14258e9d5a80", func := "loop.example/g00843/laws.FnExactArmTimer", spec := "fnExactArmTimer", unfollowed := true, recurses := true, apart := false }
def FnExactArmTimerSaid : Prop := fnExactArmTimerRow.holds Try.pinned (OpenSpec.ofChange fnExactArmTimerSpec)

/-- ITS FALSE NEIGHBOUR: 'it returns false'. Refute it at one input. -/
def fnExactArmTimerWrong : ChangeSpec := { name := "fnExactArmTimer", fn := fun _ => fun
  | [d1, d2, d3, d4] => { results := [.lit (.bool false)], args := [d1, d2, d3, d4] }
  | _ => none }
def FnExactArmTimerWrongFalsely : Prop := fnExactArmTimerRow.holds Try.pinned (OpenSpec.ofChange fnExactArmTimerWrong)

/-- 'laws.FnExactDisarmTimer': WHATEVER THE INPUT: true; the input reads as it did. -/
def fnExactDisarmTimerSpec : ChangeSpec := { name := "fnExactDisarmTimer", fn := fun _ => fun
  | [d1, d2] => { results := [.lit (.bool true)], args := [d1, d2] }
  | _ => none }
def fnExactDisarmTimerRow : OpenClaim := { program := "ytmblpgocgkfjcaa", sum := "001649e0974f383b673b33f598c3d7b9273b97fd166b752d1b2e14258e9d5a80", func := "loop.example/g00843/laws.FnExactDisarmTimer", spec := "fnExactDisarmTimer", unfollowed := true, recurses := true, apart := false }
def FnExactDisarmTimerSaid : Prop := fnExactDisarmTimerRow.holds Try.pinned (OpenSpec.ofChange fnExactDisarmTimerSpec)

/-- ITS FALSE NEIGHBOUR: 'it returns false'. Refute it at one input. -/
def fnExactDisarmTimerWrong : ChangeSpec := { name := "fnExactDisarmTimer", fn := fun _ => fun
  | [d1, d2] => { results := [.lit (.bool false)], args := [d1, d2] }
  | _ => none }
def FnExactDisarmTimerWrongFalsely : Prop := fnExactDisarmTimerRow.holds Try.pinned (OpenSpec.ofChange fnExactDisarmTimerWrong)

/-- 'laws.FnExactShiftTimers': WHATEVER THE INPUT: true; the input reads as it did. -/
def fnExactShiftTimersSpec : ChangeSpec := { name := "fnExactShiftTimers", fn := fun _ => fun
  | [d1, d2] => { results := [.lit (.bool true)], args := [d1, d2] }
  | _ => none }
def fnExactShiftTimersRow : OpenClaim := { program := "ytmblpgocgkfjcaa", sum := "001649e0974f383b673b33f598c3d7b9273b97fd166b752d1b2e14258e9d5a80", func := "loop.example/g00843/laws.FnExactShiftTimers", spec := "fnExactShiftTimers", unfollowed := true, recurses := true, apart := false }
def FnExactShiftTimersSaid : Prop := fnExactShiftTimersRow.holds Try.pinned (OpenSpec.ofChange fnExactShiftTimersSpec)

/-- ITS FALSE NEIGHBOUR: 'it returns false'. Refute it at one input. -/
def fnExactShiftTimersWrong : ChangeSpec := { name := "fnExactShiftTimers", fn := fun _ => fun
  | [d1, d2] => { results := [.lit (.bool false)], args := [d1, d2] }
  | _ => none }
def FnExactShiftTimersWrongFalsely : Prop := fnExactShiftTimersRow.holds Try.pinned (OpenSpec.ofChange fnExactShiftTimersWrong)

/-- 'laws.FnExactIrqsUpTo': WHATEVER THE INPUT: true; the input reads as it did. -/
def fnExactIrqsUpToSpec : ChangeSpec := { name := "fnExactIrqsUpTo", fn := fun _ => fun
  | [d1, d2] => { results := [.lit (.bool true)], args := [d1, d2] }
  | _ => none }
def fnExactIrqsUpToRow : OpenClaim := { program := "ytmblpgocgkfjcaa", sum := "001649e0974f383b673b33f598c3d7b9273b97fd166b752d1b2e14258e9d5a80", func := "loop.example/g00843/laws.FnExactIrqsUpTo", spec := "fnExactIrqsUpTo", unfollowed := true, recurses := true, apart := false }
def FnExactIrqsUpToSaid : Prop := fnExactIrqsUpToRow.holds Try.pinned (OpenSpec.ofChange fnExactIrqsUpToSpec)

/-- ITS FALSE NEIGHBOUR: 'it returns false'. Refute it at one input. -/
def fnExactIrqsUpToWrong : ChangeSpec := { name := "fnExactIrqsUpTo", fn := fun _ => fun
  | [d1, d2] => { results := [.lit (.bool false)], args := [d1, d2] }
  | _ => none }
def FnExactIrqsUpToWrongFalsely : Prop := fnExactIrqsUpToRow.holds Try.pinned (OpenSpec.ofChange fnExactIrqsUpToWrong)

/-- 'laws.FnExactQuietFor': WHATEVER THE INPUT: true; the input reads as it did. -/
def fnExactQuietForSpec : ChangeSpec := { name := "fnExactQuietFor", fn := fun _ => fun
  | [d1, d2] => { results := [.lit (.bool true)], args := [d1, d2] }
  | _ => none }
def fnExactQuietForRow : OpenClaim := { program := "ytmblpgocgkfjcaa", sum := "001649e0974f383b673b33f598c3d7b9273b97fd166b752d1b2e14258e9d5a80", func := "loop.example/g00843/laws.FnExactQuietFor", spec := "fnExactQuietFor", unfollowed := true, recurses := true, apart := false }
def FnExactQuietForSaid : Prop := fnExactQuietForRow.holds Try.pinned (OpenSpec.ofChange fnExactQuietForSpec)

/-- ITS FALSE NEIGHBOUR: 'it returns false'. Refute it at one input. -/
def fnExactQuietForWrong : ChangeSpec := { name := "fnExactQuietFor", fn := fun _ => fun
  | [d1, d2] => { results := [.lit (.bool false)], args := [d1, d2] }
  | _ => none }
def FnExactQuietForWrongFalsely : Prop := fnExactQuietForRow.holds Try.pinned (OpenSpec.ofChange fnExactQuietForWrong)

/- THE SECOND FORM. 'bulk': how many values and letters a reading holds, each counted each time it is reached (what is shared counts as often as it is met; a slice's spare places count too). A statement '..UptoSaid' is the law's where the arguments, and the package variables that the reading takes, are together of bulk at most 1048576: NARROWER than '..Said'. Prove '..Said' where nothing that the law and all that it calls make is longer than what came in: it says more and counts as full. Else prove '..UptoSaid'. A law counts once. -/
mutual
def uptoBulk {H : Type} : DataW H → Nat
  | .lit (.string bytes) => bytes.length + 1
  | .lit _ => 1
  | .nil => 1
  | .ptr d => uptoBulk d + 1
  | .slice elems spare => uptoBulkAll elems + uptoBulkAll spare + 1
  | .agg parts => uptoBulkAll parts + 1
  | .iface _ d => uptoBulk d + 1
  | .map entries => uptoBulkEntries entries + 1
  | .held _ => 1
def uptoBulkAll {H : Type} : List (DataW H) → Nat
  | [] => 0
  | d :: r => uptoBulk d + uptoBulkAll r
def uptoBulkEntries {H : Type} : List (Lit × DataW H) → Nat
  | [] => 0
  | x :: r => uptoBulkEntry x + uptoBulkEntries r
def uptoBulkEntry {H : Type} : Lit × DataW H → Nat
  | (.string bytes, d) => bytes.length + uptoBulk d + 1
  | (_, d) => uptoBulk d + 1
 end
def uptoSmall : (H : Type) → List (DataW H) → Bool := fun _ ds => decide (uptoBulkAll ds ≤ 1048576)
def OpenSpec.upto (s : _root_.Go.ChangeSpec) : _root_.Go.OpenSpec := { _root_.Go.OpenSpec.ofChange s with cond := some uptoSmall }

/-- 'laws.FnExactIsTimer', WHERE WHAT IT READS IS OF BULK AT MOST 1048576: true; the input reads as it did. -/
def fnExactIsTimerUptoRow : OpenClaim := { program := "ytmblpgocgkfjcaa", sum := "001649e0974f383b673b33f598c3d7b9273b97fd166b752d1b2e14258e9d5a80", func := "loop.example/g00843/laws.FnExactIsTimer", spec := "fnExactIsTimer", apart := false, narrowed := true }
def FnExactIsTimerUptoSaid : Prop := fnExactIsTimerUptoRow.holds Try.pinned (OpenSpec.upto fnExactIsTimerSpec)

/-- 'laws.FnExactFiresUpTo', WHERE WHAT IT READS IS OF BULK AT MOST 1048576: true; the input reads as it did. -/
def fnExactFiresUpToUptoRow : OpenClaim := { program := "ytmblpgocgkfjcaa", sum := "001649e0974f383b673b33f598c3d7b9273b97fd166b752d1b2e14258e9d5a80", func := "loop.example/g00843/laws.FnExactFiresUpTo", spec := "fnExactFiresUpTo", apart := false, narrowed := true }
def FnExactFiresUpToUptoSaid : Prop := fnExactFiresUpToUptoRow.holds Try.pinned (OpenSpec.upto fnExactFiresUpToSpec)

/-- 'laws.FnExactAreTimers', WHERE WHAT IT READS IS OF BULK AT MOST 1048576: true; the input reads as it did. -/
def fnExactAreTimersUptoRow : OpenClaim := { program := "ytmblpgocgkfjcaa", sum := "001649e0974f383b673b33f598c3d7b9273b97fd166b752d1b2e14258e9d5a80", func := "loop.example/g00843/laws.FnExactAreTimers", spec := "fnExactAreTimers", unfollowed := true, recurses := true, apart := false, narrowed := true }
def FnExactAreTimersUptoSaid : Prop := fnExactAreTimersUptoRow.holds Try.pinned (OpenSpec.upto fnExactAreTimersSpec)

/-- 'laws.FnExactNextToFire', WHERE WHAT IT READS IS OF BULK AT MOST 1048576: true; the input reads as it did. -/
def fnExactNextToFireUptoRow : OpenClaim := { program := "ytmblpgocgkfjcaa", sum := "001649e0974f383b673b33f598c3d7b9273b97fd166b752d1b2e14258e9d5a80", func := "loop.example/g00843/laws.FnExactNextToFire", spec := "fnExactNextToFire", unfollowed := true, recurses := true, apart := false, narrowed := true }
def FnExactNextToFireUptoSaid : Prop := fnExactNextToFireUptoRow.holds Try.pinned (OpenSpec.upto fnExactNextToFireSpec)

/-- 'laws.FnExactArmTimer', WHERE WHAT IT READS IS OF BULK AT MOST 1048576: true; the input reads as it did. -/
def fnExactArmTimerUptoRow : OpenClaim := { program := "ytmblpgocgkfjcaa", sum := "001649e0974f383b673b33f598c3d7b9273b97fd166b752d1b2e14258e9d5a80", func := "loop.example/g00843/laws.FnExactArmTimer", spec := "fnExactArmTimer", unfollowed := true, recurses := true, apart := false, narrowed := true }
def FnExactArmTimerUptoSaid : Prop := fnExactArmTimerUptoRow.holds Try.pinned (OpenSpec.upto fnExactArmTimerSpec)

/-- 'laws.FnExactDisarmTimer', WHERE WHAT IT READS IS OF BULK AT MOST 1048576: true; the input reads as it did. -/
def fnExactDisarmTimerUptoRow : OpenClaim := { program := "ytmblpgocgkfjcaa", sum := "001649e0974f383b673b33f598c3d7b9273b97fd166b752d1b2e14258e9d5a80", func := "loop.example/g00843/laws.FnExactDisarmTimer", spec := "fnExactDisarmTimer", unfollowed := true, recurses := true, apart := false, narrowed := true }
def FnExactDisarmTimerUptoSaid : Prop := fnExactDisarmTimerUptoRow.holds Try.pinned (OpenSpec.upto fnExactDisarmTimerSpec)

/-- 'laws.FnExactShiftTimers', WHERE WHAT IT READS IS OF BULK AT MOST 1048576: true; the input reads as it did. -/
def fnExactShiftTimersUptoRow : OpenClaim := { program := "ytmblpgocgkfjcaa", sum := "001649e0974f383b673b33f598c3d7b9273b97fd166b752d1b2e14258e9d5a80", func := "loop.example/g00843/laws.FnExactShiftTimers", spec := "fnExactShiftTimers", unfollowed := true, recurses := true, apart := false, narrowed := true }
def FnExactShiftTimersUptoSaid : Prop := fnExactShiftTimersUptoRow.holds Try.pinned (OpenSpec.upto fnExactShiftTimersSpec)

/-- 'laws.FnExactIrqsUpTo', WHERE WHAT IT READS IS OF BULK AT MOST 1048576: true; the input reads as it did. -/
def fnExactIrqsUpToUptoRow : OpenClaim := { program := "ytmblpgocgkfjcaa", sum := "001649e0974f383b673b33f598c3d7b9273b97fd166b752d1b2e14258e9d5a80", func := "loop.example/g00843/laws.FnExactIrqsUpTo", spec := "fnExactIrqsUpTo", unfollowed := true, recurses := true, apart := false, narrowed := true }
def FnExactIrqsUpToUptoSaid : Prop := fnExactIrqsUpToUptoRow.holds Try.pinned (OpenSpec.upto fnExactIrqsUpToSpec)

/-- 'laws.FnExactQuietFor', WHERE WHAT IT READS IS OF BULK AT MOST 1048576: true; the input reads as it did. -/
def fnExactQuietForUptoRow : OpenClaim := { program := "ytmblpgocgkfjcaa", sum := "001649e0974f383b673b33f598c3d7b9273b97fd166b752d1b2e14258e9d5a80", func := "loop.example/g00843/laws.FnExactQuietFor", spec := "fnExactQuietFor", unfollowed := true, recurses := true, apart := false, narrowed := true }
def FnExactQuietForUptoSaid : Prop := fnExactQuietForUptoRow.holds Try.pinned (OpenSpec.upto fnExactQuietForSpec)

end Rows
end Go.Proofs.Ytmblpgocgkfjcaa
