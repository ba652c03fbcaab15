/-
  No cell of these rows narrows 'for every input' (looked for: loops, veiled, ifaces, maps, wideKeys, modest, calm, conditions, laid).
  DERIVED. THE GIVEN ROWS OF THIS SEAT. 9 by the template 'for every input the law returns true; each argument reads behind the call as it read before'; 0 by the template 'total and deterministic' (their statements: YtleoicpbnodklaaTotals.lean).
  GIVEN WITH THE SEED: the statements are not yours to turn. If you find one false, say at which input.
  Laid BY PROGRAM, IN A SANDBOX (cutbox-rows.mjs): the forced cells as the released guide's own fill.sh prints them over the translation ac0a150a8304fd14… (all of the seat's roots in one cut). By AI agents, Wed Nov 11 2026. No macro, syntax, notation, axiom, sorry.
-/
import Derived.Test.YtleoicpbnodklaaChecked
import GoSem.Claim
import GoSem.ClaimJoined
import GoSem.ClaimMapViews
import Derived.JoinedTies
import Derived.KernelRfl
namespace Go.Proofs.Ytleoicpbnodklaa
/- THE CELL 'sum', in the pinned program and in every row, IS THE sha256 OF THE DUMP (.gsa) THAT YtleoicpbnodklaaProg.lean LOADS. Nothing in Lean hashes anything: it is a label: what it is worth is what the hold of that sum in a sandbox is worth. -/
noncomputable def Try.pinned : Pinned := { name := "ytleoicpbnodklaa", sum := "ac0a150a8304fd14ed8d1dad49d1a6abe85be06b1922246bf39cfa7654e6de57", checked := Try.checked }
namespace Rows
def none {H : Type} : Left H := { results := [], args := [] }

/-- 'laws.FnExactEndIrq': WHATEVER THE INPUT: true; the input reads as it did. -/
def fnExactEndIrqSpec : ChangeSpec := { name := "fnExactEndIrq", fn := fun _ => fun
  | [d1, d2] => { results := [.lit (.bool true)], args := [d1, d2] }
  | _ => none }
def fnExactEndIrqRow : OpenClaim := { program := "ytleoicpbnodklaa", sum := "ac0a150a8304fd14ed8d1dad49d1a6abe85be06b1922246bf39cfa7654e6de57", func := "loop.example/g00843/laws.FnExactEndIrq", spec := "fnExactEndIrq", unfollowed := true, recurses := true, apart := false }
def FnExactEndIrqSaid : Prop := fnExactEndIrqRow.holds Try.pinned (OpenSpec.ofChange fnExactEndIrqSpec)

/-- ITS FALSE NEIGHBOUR: 'it returns false'. Refute it at one input. -/
def fnExactEndIrqWrong : ChangeSpec := { name := "fnExactEndIrq", fn := fun _ => fun
  | [d1, d2] => { results := [.lit (.bool false)], args := [d1, d2] }
  | _ => none }
def FnExactEndIrqWrongFalsely : Prop := fnExactEndIrqRow.holds Try.pinned (OpenSpec.ofChange fnExactEndIrqWrong)

/-- 'laws.FnExactRouteIrq': WHATEVER THE INPUT: true; the input reads as it did. -/
def fnExactRouteIrqSpec : ChangeSpec := { name := "fnExactRouteIrq", fn := fun _ => fun
  | [d1, d2, d3, d4] => { results := [.lit (.bool true)], args := [d1, d2, d3, d4] }
  | _ => none }
def fnExactRouteIrqRow : OpenClaim := { program := "ytleoicpbnodklaa", sum := "ac0a150a8304fd14ed8d1dad49d1a6abe85be06b1922246bf39cfa7654e6de57", func := "loop.example/g00843/laws.FnExactRouteIrq", spec := "fnExactRouteIrq", unfollowed := true, recurses := true, apart := false }
def FnExactRouteIrqSaid : Prop := fnExactRouteIrqRow.holds Try.pinned (OpenSpec.ofChange fnExactRouteIrqSpec)

/-- ITS FALSE NEIGHBOUR: 'it returns false'. Refute it at one input. -/
def fnExactRouteIrqWrong : ChangeSpec := { name := "fnExactRouteIrq", fn := fun _ => fun
  | [d1, d2, d3, d4] => { results := [.lit (.bool false)], args := [d1, d2, d3, d4] }
  | _ => none }
def FnExactRouteIrqWrongFalsely : Prop := fnExactRouteIrqRow.holds Try.pinned (OpenSpec.ofChange fnExactRouteIrqWrong)

/-- 'laws.FnExactBeginIrq': WHATEVER THE INPUT: true; the input reads as it did. -/
def fnExactBeginIrqSpec : ChangeSpec := { name := "fnExactBeginIrq", fn := fun _ => fun
  | [d1, d2] => { results := [.lit (.bool true)], args := [d1, d2] }
  | _ => none }
def fnExactBeginIrqRow : OpenClaim := { program := "ytleoicpbnodklaa", sum := "ac0a150a8304fd14ed8d1dad49d1a6abe85be06b1922246bf39cfa7654e6de57", func := "loop.example/g00843/laws.FnExactBeginIrq", spec := "fnExactBeginIrq", unfollowed := true, recurses := true, apart := false }
def FnExactBeginIrqSaid : Prop := fnExactBeginIrqRow.holds Try.pinned (OpenSpec.ofChange fnExactBeginIrqSpec)

/-- ITS FALSE NEIGHBOUR: 'it returns false'. Refute it at one input. -/
def fnExactBeginIrqWrong : ChangeSpec := { name := "fnExactBeginIrq", fn := fun _ => fun
  | [d1, d2] => { results := [.lit (.bool false)], args := [d1, d2] }
  | _ => none }
def FnExactBeginIrqWrongFalsely : Prop := fnExactBeginIrqRow.holds Try.pinned (OpenSpec.ofChange fnExactBeginIrqWrong)

/-- 'laws.FnExactMostUrgent': WHATEVER THE INPUT: true; the input reads as it did. -/
def fnExactMostUrgentSpec : ChangeSpec := { name := "fnExactMostUrgent", fn := fun _ => fun
  | [d1, d2] => { results := [.lit (.bool true)], args := [d1, d2] }
  | _ => none }
def fnExactMostUrgentRow : OpenClaim := { program := "ytleoicpbnodklaa", sum := "ac0a150a8304fd14ed8d1dad49d1a6abe85be06b1922246bf39cfa7654e6de57", func := "loop.example/g00843/laws.FnExactMostUrgent", spec := "fnExactMostUrgent", unfollowed := true, recurses := true, apart := false }
def FnExactMostUrgentSaid : Prop := fnExactMostUrgentRow.holds Try.pinned (OpenSpec.ofChange fnExactMostUrgentSpec)

/-- ITS FALSE NEIGHBOUR: 'it returns false'. Refute it at one input. -/
def fnExactMostUrgentWrong : ChangeSpec := { name := "fnExactMostUrgent", fn := fun _ => fun
  | [d1, d2] => { results := [.lit (.bool false)], args := [d1, d2] }
  | _ => none }
def FnExactMostUrgentWrongFalsely : Prop := fnExactMostUrgentRow.holds Try.pinned (OpenSpec.ofChange fnExactMostUrgentWrong)

/-- 'laws.FnExactReadyIrqs': WHATEVER THE INPUT: true; the input reads as it did. -/
def fnExactReadyIrqsSpec : ChangeSpec := { name := "fnExactReadyIrqs", fn := fun _ => fun
  | [d1, d2] => { results := [.lit (.bool true)], args := [d1, d2] }
  | _ => none }
def fnExactReadyIrqsRow : OpenClaim := { program := "ytleoicpbnodklaa", sum := "ac0a150a8304fd14ed8d1dad49d1a6abe85be06b1922246bf39cfa7654e6de57", func := "loop.example/g00843/laws.FnExactReadyIrqs", spec := "fnExactReadyIrqs", unfollowed := true, recurses := true, apart := false }
def FnExactReadyIrqsSaid : Prop := fnExactReadyIrqsRow.holds Try.pinned (OpenSpec.ofChange fnExactReadyIrqsSpec)

/-- ITS FALSE NEIGHBOUR: 'it returns false'. Refute it at one input. -/
def fnExactReadyIrqsWrong : ChangeSpec := { name := "fnExactReadyIrqs", fn := fun _ => fun
  | [d1, d2] => { results := [.lit (.bool false)], args := [d1, d2] }
  | _ => none }
def FnExactReadyIrqsWrongFalsely : Prop := fnExactReadyIrqsRow.holds Try.pinned (OpenSpec.ofChange fnExactReadyIrqsWrong)

/-- 'laws.FnExactPriorityMask': WHATEVER THE INPUT: true; the input reads as it did. -/
def fnExactPriorityMaskSpec : ChangeSpec := { name := "fnExactPriorityMask", fn := fun _ => fun
  | [d1, d2, d3] => { results := [.lit (.bool true)], args := [d1, d2, d3] }
  | _ => none }
def fnExactPriorityMaskRow : OpenClaim := { program := "ytleoicpbnodklaa", sum := "ac0a150a8304fd14ed8d1dad49d1a6abe85be06b1922246bf39cfa7654e6de57", func := "loop.example/g00843/laws.FnExactPriorityMask", spec := "fnExactPriorityMask", unfollowed := true, recurses := true, apart := false }
def FnExactPriorityMaskSaid : Prop := fnExactPriorityMaskRow.holds Try.pinned (OpenSpec.ofChange fnExactPriorityMaskSpec)

/-- ITS FALSE NEIGHBOUR: 'it returns false'. Refute it at one input. -/
def fnExactPriorityMaskWrong : ChangeSpec := { name := "fnExactPriorityMask", fn := fun _ => fun
  | [d1, d2, d3] => { results := [.lit (.bool false)], args := [d1, d2, d3] }
  | _ => none }
def FnExactPriorityMaskWrongFalsely : Prop := fnExactPriorityMaskRow.holds Try.pinned (OpenSpec.ofChange fnExactPriorityMaskWrong)

/-- 'laws.FnExactServeAll': WHATEVER THE INPUT: true; the input reads as it did. -/
def fnExactServeAllSpec : ChangeSpec := { name := "fnExactServeAll", fn := fun _ => fun
  | [d1, d2] => { results := [.lit (.bool true)], args := [d1, d2] }
  | _ => none }
def fnExactServeAllRow : OpenClaim := { program := "ytleoicpbnodklaa", sum := "ac0a150a8304fd14ed8d1dad49d1a6abe85be06b1922246bf39cfa7654e6de57", func := "loop.example/g00843/laws.FnExactServeAll", spec := "fnExactServeAll", unfollowed := true, recurses := true, apart := false }
def FnExactServeAllSaid : Prop := fnExactServeAllRow.holds Try.pinned (OpenSpec.ofChange fnExactServeAllSpec)

/-- ITS FALSE NEIGHBOUR: 'it returns false'. Refute it at one input. -/
def fnExactServeAllWrong : ChangeSpec := { name := "fnExactServeAll", fn := fun _ => fun
  | [d1, d2] => { results := [.lit (.bool false)], args := [d1, d2] }
  | _ => none }
def FnExactServeAllWrongFalsely : Prop := fnExactServeAllRow.holds Try.pinned (OpenSpec.ofChange fnExactServeAllWrong)

/-- 'laws.FnIrqStates': WHATEVER THE INPUT: true; the input reads as it did. -/
def fnIrqStatesSpec : ChangeSpec := { name := "fnIrqStates", fn := fun _ => fun
  | [d] => { results := [.lit (.bool true)], args := [d] }
  | _ => none }
def fnIrqStatesRow : OpenClaim := { program := "ytleoicpbnodklaa", sum := "ac0a150a8304fd14ed8d1dad49d1a6abe85be06b1922246bf39cfa7654e6de57", func := "loop.example/g00843/laws.FnIrqStates", spec := "fnIrqStates", unfollowed := true, recurses := true, apart := false }
def FnIrqStatesSaid : Prop := fnIrqStatesRow.holds Try.pinned (OpenSpec.ofChange fnIrqStatesSpec)

/-- ITS FALSE NEIGHBOUR: 'it returns false'. Refute it at one input. -/
def fnIrqStatesWrong : ChangeSpec := { name := "fnIrqStates", fn := fun _ => fun
  | [d] => { results := [.lit (.bool false)], args := [d] }
  | _ => none }
def FnIrqStatesWrongFalsely : Prop := fnIrqStatesRow.holds Try.pinned (OpenSpec.ofChange fnIrqStatesWrong)

/-- 'laws.FnDistributor': WHATEVER THE INPUT: true; the input reads as it did. -/
def fnDistributorSpec : ChangeSpec := { name := "fnDistributor", fn := fun _ => fun
  | [d] => { results := [.lit (.bool true)], args := [d] }
  | _ => none }
def fnDistributorRow : OpenClaim := { program := "ytleoicpbnodklaa", sum := "ac0a150a8304fd14ed8d1dad49d1a6abe85be06b1922246bf39cfa7654e6de57", func := "loop.example/g00843/laws.FnDistributor", spec := "fnDistributor", unfollowed := true, recurses := true, apart := false }
def FnDistributorSaid : Prop := fnDistributorRow.holds Try.pinned (OpenSpec.ofChange fnDistributorSpec)

/-- ITS FALSE NEIGHBOUR: 'it returns false'. Refute it at one input. -/
def fnDistributorWrong : ChangeSpec := { name := "fnDistributor", fn := fun _ => fun
  | [d] => { results := [.lit (.bool false)], args := [d] }
  | _ => none }
def FnDistributorWrongFalsely : Prop := fnDistributorRow.holds Try.pinned (OpenSpec.ofChange fnDistributorWrong)

/- THE SECOND FORM. 'bulk': how many values and letters a reading holds, each counted each time it is reached (what is shared counts as often as it is met; a slice's spare places count too). A statement '..UptoSaid' is the law's where the arguments, and the package variables that the reading takes, are together of bulk at most 1048576: NARROWER than '..Said'. Prove '..Said' where nothing that the law and all that it calls make is longer than what came in: it says more and counts as full. Else prove '..UptoSaid'. A law counts once. -/
mutual
def uptoBulk {H : Type} : DataW H → Nat
  | .lit (.string bytes) => bytes.length + 1
  | .lit _ => 1
  | .nil => 1
  | .ptr d => uptoBulk d + 1
  | .slice elems spare => uptoBulkAll elems + uptoBulkAll spare + 1
  | .agg parts => uptoBulkAll parts + 1
  | .iface _ d => uptoBulk d + 1
  | .map entries => uptoBulkEntries entries + 1
  | .held _ => 1
def uptoBulkAll {H : Type} : List (DataW H) → Nat
  | [] => 0
  | d :: r => uptoBulk d + uptoBulkAll r
def uptoBulkEntries {H : Type} : List (Lit × DataW H) → Nat
  | [] => 0
  | x :: r => uptoBulkEntry x + uptoBulkEntries r
def uptoBulkEntry {H : Type} : Lit × DataW H → Nat
  | (.string bytes, d) => bytes.length + uptoBulk d + 1
  | (_, d) => uptoBulk d + 1
 end
def uptoSmall : (H : Type) → List (DataW H) → Bool := fun _ ds => decide (uptoBulkAll ds ≤ 1048576)
def OpenSpec.upto (s : _root_.Go.ChangeSpec) : _root_.Go.OpenSpec := { _root_.Go.OpenSpec.ofChange s with cond := some uptoSmall }

/-- 'laws.FnExactEndIrq', WHERE WHAT IT READS IS OF BULK AT MOST 1048576: true; the input reads as it did. -/
def fnExactEndIrqUptoRow : OpenClaim := { program := "ytleoicpbnodklaa", sum := "ac0a150a8304fd14ed8d1dad49d1a6abe85be06b1922246bf39cfa7654e6de57", func := "loop.example/g00843/laws.FnExactEndIrq", spec := "fnExactEndIrq", unfollowed := true, recurses := true, apart := false, narrowed := true }
def FnExactEndIrqUptoSaid : Prop := fnExactEndIrqUptoRow.holds Try.pinned (OpenSpec.upto fnExactEndIrqSpec)

/-- 'laws.FnExactRouteIrq', WHERE WHAT IT READS IS OF BULK AT MOST 1048576: true; the input reads as it did. -/
def fnExactRouteIrqUptoRow : OpenClaim := { program := "ytleoicpbnodklaa", sum := "ac0a150a8304fd14ed8d1dad49d1a6abe85be06b1922246bf39cfa7654e6de57", func := "loop.example/g00843/laws.FnExactRouteIrq", spec := "fnExactRouteIrq", unfollowed := true, recurses := true, apart := false, narrowed := true }
def FnExactRouteIrqUptoSaid : Prop := fnExactRouteIrqUptoRow.holds Try.pinned (OpenSpec.upto fnExactRouteIrqSpec)

/-- 'laws.FnExactBeginIrq', WHERE WHAT IT READS IS OF BULK AT MOST 1048576: true; the input reads as it did. -/
def fnExactBeginIrqUptoRow : OpenClaim := { program := "ytleoicpbnodklaa", sum := "ac0a150a8304fd14ed8d1dad49d1a6abe85be06b1922246bf39cfa7654e6de57", func := "loop.example/g00843/laws.FnExactBeginIrq", spec := "fnExactBeginIrq", unfollowed := true, recurses := true, apart := false, narrowed := true }
def FnExactBeginIrqUptoSaid : Prop := fnExactBeginIrqUptoRow.holds Try.pinned (OpenSpec.upto fnExactBeginIrqSpec)

/-- 'laws.FnExactMostUrgent', WHERE WHAT IT READS IS OF BULK AT MOST 1048576: true; the input reads as it did. -/
def fnExactMostUrgentUptoRow : OpenClaim := { program := "ytleoicpbnodklaa", sum := "ac0a150a8304fd14ed8d1dad49d1a6abe85be06b1922246bf39cfa7654e6de57", func := "loop.example/g00843/laws.FnExactMostUrgent", spec := "fnExactMostUrgent", unfollowed := true, recurses := true, apart := false, narrowed := true }
def FnExactMostUrgentUptoSaid : Prop := fnExactMostUrgentUptoRow.holds Try.pinned (OpenSpec.upto fnExactMostUrgentSpec)

/-- 'laws.FnExactReadyIrqs', WHERE WHAT IT READS IS OF BULK AT MOST 1048576: true; the input reads as it did. -/
def fnExactReadyIrqsUptoRow : OpenClaim := { program := "ytleoicpbnodklaa", sum := "ac0a150a8304fd14ed8d1dad49d1a6abe85be06b1922246bf39cfa7654e6de57", func := "loop.example/g00843/laws.FnExactReadyIrqs", spec := "fnExactReadyIrqs", unfollowed := true, recurses := true, apart := false, narrowed := true }
def FnExactReadyIrqsUptoSaid : Prop := fnExactReadyIrqsUptoRow.holds Try.pinned (OpenSpec.upto fnExactReadyIrqsSpec)

/-- 'laws.FnExactPriorityMask', WHERE WHAT IT READS IS OF BULK AT MOST 1048576: true; the input reads as it did. -/
def fnExactPriorityMaskUptoRow : OpenClaim := { program := "ytleoicpbnodklaa", sum := "ac0a150a8304fd14ed8d1dad49d1a6abe85be06b1922246bf39cfa7654e6de57", func := "loop.example/g00843/laws.FnExactPriorityMask", spec := "fnExactPriorityMask", unfollowed := true, recurses := true, apart := false, narrowed := true }
def FnExactPriorityMaskUptoSaid : Prop := fnExactPriorityMaskUptoRow.holds Try.pinned (OpenSpec.upto fnExactPriorityMaskSpec)

/-- 'laws.FnExactServeAll', WHERE WHAT IT READS IS OF BULK AT MOST 1048576: true; the input reads as it did. -/
def fnExactServeAllUptoRow : OpenClaim := { program := "ytleoicpbnodklaa", sum := "ac0a150a8304fd14ed8d1dad49d1a6abe85be06b1922246bf39cfa7654e6de57", func := "loop.example/g00843/laws.FnExactServeAll", spec := "fnExactServeAll", unfollowed := true, recurses := true, apart := false, narrowed := true }
def FnExactServeAllUptoSaid : Prop := fnExactServeAllUptoRow.holds Try.pinned (OpenSpec.upto fnExactServeAllSpec)

/-- 'laws.FnIrqStates', WHERE WHAT IT READS IS OF BULK AT MOST 1048576: true; the input reads as it did. -/
def fnIrqStatesUptoRow : OpenClaim := { program := "ytleoicpbnodklaa", sum := "ac0a150a8304fd14ed8d1dad49d1a6abe85be06b1922246bf39cfa7654e6de57", func := "loop.example/g00843/laws.FnIrqStates", spec := "fnIrqStates", unfollowed := true, recurses := true, apart := false, narrowed := true }
def FnIrqStatesUptoSaid : Prop := fnIrqStatesUptoRow.holds Try.pinned (OpenSpec.upto fnIrqStatesSpec)

/-- 'laws.FnDistributor', WHERE WHAT IT READS IS OF BULK AT MOST 1048576: true; the input reads as it did. -/
def fnDistributorUptoRow : OpenClaim := { program := "ytleoicpbnodklaa", sum := "ac0a150a8304fd14ed8d1dad49d1a6abe85be06b1922246bf39cfa7654e6de57", func := "loop.example/g00843/laws.FnDistributor", spec := "fnDistributor", unfollowed := true, recurses := true, apart := false, narrowed := true }
def FnDistributorUptoSaid : Prop := fnDistributorUptoRow.holds Try.pinned (OpenSpec.upto fnDistributorSpec)

end Rows
end Go.Proofs.Ytleoicpbnodklaa
