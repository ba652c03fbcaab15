/-
  No cell of these rows narrows 'for every input' (looked for: loops, veiled, ifaces, maps, wideKeys, modest, calm, conditions, laid).
  DERIVED. THE GIVEN ROWS OF THIS SEAT. 8 by the template 'for every input the law returns true; each argument reads behind the call as it read before'; 0 by the template 'total and deterministic' (their statements: YtghfdoibabaadaaTotals.lean).
  GIVEN WITH THE SEED: the statements are not yours to turn. If you find one false, say at which input.
  Laid BY PROGRAM, IN A SANDBOX (cutbox-rows.mjs): the forced cells as the released guide's own fill.sh prints them over the translation 0f85c2cfab8a9b45… (all of the seat's roots in one cut). By AI agents, Wed Nov 11 2026. No macro, syntax, notation, axiom, sorry.
-/
import Derived.Test.YtghfdoibabaadaaChecked
import GoSem.Claim
import GoSem.ClaimJoined
import GoSem.ClaimMapViews
import Derived.JoinedTies
import Derived.KernelRfl
namespace Go.Proofs.Ytghfdoibabaadaa
/- THE CELL 'sum', in the pinned program and in every row, IS THE sha256 OF THE DUMP (.gsa) THAT YtghfdoibabaadaaProg.lean LOADS. Nothing in Lean hashes anything: it is a label: what it is worth is what the hold of that sum in a sandbox is worth. -/
noncomputable def Try.pinned : Pinned := { name := "ytghfdoibabaadaa", sum := "0f85c2cfab8a9b45d4f88282c64811a559ddbd9c8631efb45cab1d9b10845be9", checked := Try.checked }
namespace Rows
def none {H : Type} : Left H := { results := [], args := [] }

/-- 'laws.FnExactIsQueue': WHATEVER THE INPUT: true; the input reads as it did. -/
def fnExactIsQueueSpec : ChangeSpec := { name := "fnExactIsQueue", fn := fun _ => fun
  | [d] => { results := [.lit (.bool true)], args := [d] }
  | _ => none }
def fnExactIsQueueRow : OpenClaim := { program := "ytghfdoibabaadaa", sum := "0f85c2cfab8a9b45d4f88282c64811a559ddbd9c8631efb45cab1d9b10845be9", func := "loop.example/g00843/laws.FnExactIsQueue", spec := "fnExactIsQueue", unfollowed := true, recurses := true, apart := false }
def FnExactIsQueueSaid : Prop := fnExactIsQueueRow.holds Try.pinned (OpenSpec.ofChange fnExactIsQueueSpec)

/-- ITS FALSE NEIGHBOUR: 'it returns false'. Refute it at one input. -/
def fnExactIsQueueWrong : ChangeSpec := { name := "fnExactIsQueue", fn := fun _ => fun
  | [d] => { results := [.lit (.bool false)], args := [d] }
  | _ => none }
def FnExactIsQueueWrongFalsely : Prop := fnExactIsQueueRow.holds Try.pinned (OpenSpec.ofChange fnExactIsQueueWrong)

/-- 'laws.FnExactTakeQueue': WHATEVER THE INPUT: true; the input reads as it did. -/
def fnExactTakeQueueSpec : ChangeSpec := { name := "fnExactTakeQueue", fn := fun _ => fun
  | [d1, d2] => { results := [.lit (.bool true)], args := [d1, d2] }
  | _ => none }
def fnExactTakeQueueRow : OpenClaim := { program := "ytghfdoibabaadaa", sum := "0f85c2cfab8a9b45d4f88282c64811a559ddbd9c8631efb45cab1d9b10845be9", func := "loop.example/g00843/laws.FnExactTakeQueue", spec := "fnExactTakeQueue", unfollowed := true, recurses := true, apart := false }
def FnExactTakeQueueSaid : Prop := fnExactTakeQueueRow.holds Try.pinned (OpenSpec.ofChange fnExactTakeQueueSpec)

/-- ITS FALSE NEIGHBOUR: 'it returns false'. Refute it at one input. -/
def fnExactTakeQueueWrong : ChangeSpec := { name := "fnExactTakeQueue", fn := fun _ => fun
  | [d1, d2] => { results := [.lit (.bool false)], args := [d1, d2] }
  | _ => none }
def FnExactTakeQueueWrongFalsely : Prop := fnExactTakeQueueRow.holds Try.pinned (OpenSpec.ofChange fnExactTakeQueueWrong)

/-- 'laws.FnExactSettleQueue': WHATEVER THE INPUT: true; the input reads as it did. -/
def fnExactSettleQueueSpec : ChangeSpec := { name := "fnExactSettleQueue", fn := fun _ => fun
  | [d1, d2] => { results := [.lit (.bool true)], args := [d1, d2] }
  | _ => none }
def fnExactSettleQueueRow : OpenClaim := { program := "ytghfdoibabaadaa", sum := "0f85c2cfab8a9b45d4f88282c64811a559ddbd9c8631efb45cab1d9b10845be9", func := "loop.example/g00843/laws.FnExactSettleQueue", spec := "fnExactSettleQueue", inPlace := ["slices.overlaps[loop.example/g00843/impl.Waiter]"], unfollowed := true, recurses := true, apart := false }
def FnExactSettleQueueSaid : Prop := fnExactSettleQueueRow.holds Try.pinned (OpenSpec.ofChange fnExactSettleQueueSpec)

/-- ITS FALSE NEIGHBOUR: 'it returns false'. Refute it at one input. -/
def fnExactSettleQueueWrong : ChangeSpec := { name := "fnExactSettleQueue", fn := fun _ => fun
  | [d1, d2] => { results := [.lit (.bool false)], args := [d1, d2] }
  | _ => none }
def FnExactSettleQueueWrongFalsely : Prop := fnExactSettleQueueRow.holds Try.pinned (OpenSpec.ofChange fnExactSettleQueueWrong)

/-- 'laws.FnExactEndQueue': WHATEVER THE INPUT: true; the input reads as it did. -/
def fnExactEndQueueSpec : ChangeSpec := { name := "fnExactEndQueue", fn := fun _ => fun
  | [d1, d2] => { results := [.lit (.bool true)], args := [d1, d2] }
  | _ => none }
def fnExactEndQueueRow : OpenClaim := { program := "ytghfdoibabaadaa", sum := "0f85c2cfab8a9b45d4f88282c64811a559ddbd9c8631efb45cab1d9b10845be9", func := "loop.example/g00843/laws.FnExactEndQueue", spec := "fnExactEndQueue", inPlace := ["slices.overlaps[loop.example/g00843/impl.Waiter]"], unfollowed := true, recurses := true, apart := false }
def FnExactEndQueueSaid : Prop := fnExactEndQueueRow.holds Try.pinned (OpenSpec.ofChange fnExactEndQueueSpec)

/-- ITS FALSE NEIGHBOUR: 'it returns false'. Refute it at one input. -/
def fnExactEndQueueWrong : ChangeSpec := { name := "fnExactEndQueue", fn := fun _ => fun
  | [d1, d2] => { results := [.lit (.bool false)], args := [d1, d2] }
  | _ => none }
def FnExactEndQueueWrongFalsely : Prop := fnExactEndQueueRow.holds Try.pinned (OpenSpec.ofChange fnExactEndQueueWrong)

/-- 'laws.FnExactWithdrawIrq': WHATEVER THE INPUT: true; the input reads as it did. -/
def fnExactWithdrawIrqSpec : ChangeSpec := { name := "fnExactWithdrawIrq", fn := fun _ => fun
  | [d1, d2] => { results := [.lit (.bool true)], args := [d1, d2] }
  | _ => none }
def fnExactWithdrawIrqRow : OpenClaim := { program := "ytghfdoibabaadaa", sum := "0f85c2cfab8a9b45d4f88282c64811a559ddbd9c8631efb45cab1d9b10845be9", func := "loop.example/g00843/laws.FnExactWithdrawIrq", spec := "fnExactWithdrawIrq", inPlace := ["slices.overlaps[loop.example/g00843/impl.Waiter]"], unfollowed := true, recurses := true, apart := false }
def FnExactWithdrawIrqSaid : Prop := fnExactWithdrawIrqRow.holds Try.pinned (OpenSpec.ofChange fnExactWithdrawIrqSpec)

/-- ITS FALSE NEIGHBOUR: 'it returns false'. Refute it at one input. -/
def fnExactWithdrawIrqWrong : ChangeSpec := { name := "fnExactWithdrawIrq", fn := fun _ => fun
  | [d1, d2] => { results := [.lit (.bool false)], args := [d1, d2] }
  | _ => none }
def FnExactWithdrawIrqWrongFalsely : Prop := fnExactWithdrawIrqRow.holds Try.pinned (OpenSpec.ofChange fnExactWithdrawIrqWrong)

/-- 'laws.FnExactOfferIrq': WHATEVER THE INPUT: true; the input reads as it did. -/
def fnExactOfferIrqSpec : ChangeSpec := { name := "fnExactOfferIrq", fn := fun _ => fun
  | [d1, d2, d3] => { results := [.lit (.bool true)], args := [d1, d2, d3] }
  | _ => none }
def fnExactOfferIrqRow : OpenClaim := { program := "ytghfdoibabaadaa", sum := "0f85c2cfab8a9b45d4f88282c64811a559ddbd9c8631efb45cab1d9b10845be9", func := "loop.example/g00843/laws.FnExactOfferIrq", spec := "fnExactOfferIrq", inPlace := ["slices.overlaps[loop.example/g00843/impl.Waiter]"], unfollowed := true, recurses := true, apart := false }
def FnExactOfferIrqSaid : Prop := fnExactOfferIrqRow.holds Try.pinned (OpenSpec.ofChange fnExactOfferIrqSpec)

/-- ITS FALSE NEIGHBOUR: 'it returns false'. Refute it at one input. -/
def fnExactOfferIrqWrong : ChangeSpec := { name := "fnExactOfferIrq", fn := fun _ => fun
  | [d1, d2, d3] => { results := [.lit (.bool false)], args := [d1, d2, d3] }
  | _ => none }
def FnExactOfferIrqWrongFalsely : Prop := fnExactOfferIrqRow.holds Try.pinned (OpenSpec.ofChange fnExactOfferIrqWrong)

/-- 'laws.FnExactServeQueue': WHATEVER THE INPUT: true; the input reads as it did. -/
def fnExactServeQueueSpec : ChangeSpec := { name := "fnExactServeQueue", fn := fun _ => fun
  | [d] => { results := [.lit (.bool true)], args := [d] }
  | _ => none }
def fnExactServeQueueRow : OpenClaim := { program := "ytghfdoibabaadaa", sum := "0f85c2cfab8a9b45d4f88282c64811a559ddbd9c8631efb45cab1d9b10845be9", func := "loop.example/g00843/laws.FnExactServeQueue", spec := "fnExactServeQueue", inPlace := ["slices.overlaps[loop.example/g00843/impl.Waiter]"], unfollowed := true, recurses := true, apart := false }
def FnExactServeQueueSaid : Prop := fnExactServeQueueRow.holds Try.pinned (OpenSpec.ofChange fnExactServeQueueSpec)

/-- ITS FALSE NEIGHBOUR: 'it returns false'. Refute it at one input. -/
def fnExactServeQueueWrong : ChangeSpec := { name := "fnExactServeQueue", fn := fun _ => fun
  | [d] => { results := [.lit (.bool false)], args := [d] }
  | _ => none }
def FnExactServeQueueWrongFalsely : Prop := fnExactServeQueueRow.holds Try.pinned (OpenSpec.ofChange fnExactServeQueueWrong)

/-- 'laws.FnExactPendingIrqs': WHATEVER THE INPUT: true; the input reads as it did. -/
def fnExactPendingIrqsSpec : ChangeSpec := { name := "fnExactPendingIrqs", fn := fun _ => fun
  | [d] => { results := [.lit (.bool true)], args := [d] }
  | _ => none }
def fnExactPendingIrqsRow : OpenClaim := { program := "ytghfdoibabaadaa", sum := "0f85c2cfab8a9b45d4f88282c64811a559ddbd9c8631efb45cab1d9b10845be9", func := "loop.example/g00843/laws.FnExactPendingIrqs", spec := "fnExactPendingIrqs", unfollowed := true, recurses := true, apart := false }
def FnExactPendingIrqsSaid : Prop := fnExactPendingIrqsRow.holds Try.pinned (OpenSpec.ofChange fnExactPendingIrqsSpec)

/-- ITS FALSE NEIGHBOUR: 'it returns false'. Refute it at one input. -/
def fnExactPendingIrqsWrong : ChangeSpec := { name := "fnExactPendingIrqs", fn := fun _ => fun
  | [d] => { results := [.lit (.bool false)], args := [d] }
  | _ => none }
def FnExactPendingIrqsWrongFalsely : Prop := fnExactPendingIrqsRow.holds Try.pinned (OpenSpec.ofChange fnExactPendingIrqsWrong)

/- THE SECOND FORM. 'bulk': how many values and letters a reading holds, each counted each time it is reached (what is shared counts as often as it is met; a slice's spare places count too). A statement '..UptoSaid' is the law's where the arguments, and the package variables that the reading takes, are together of bulk at most 1048576: NARROWER than '..Said'. Prove '..Said' where nothing that the law and all that it calls make is longer than what came in: it says more and counts as full. Else prove '..UptoSaid'. A law counts once. -/
mutual
def uptoBulk {H : Type} : DataW H → Nat
  | .lit (.string bytes) => bytes.length + 1
  | .lit _ => 1
  | .nil => 1
  | .ptr d => uptoBulk d + 1
  | .slice elems spare => uptoBulkAll elems + uptoBulkAll spare + 1
  | .agg parts => uptoBulkAll parts + 1
  | .iface _ d => uptoBulk d + 1
  | .map entries => uptoBulkEntries entries + 1
  | .held _ => 1
def uptoBulkAll {H : Type} : List (DataW H) → Nat
  | [] => 0
  | d :: r => uptoBulk d + uptoBulkAll r
def uptoBulkEntries {H : Type} : List (Lit × DataW H) → Nat
  | [] => 0
  | x :: r => uptoBulkEntry x + uptoBulkEntries r
def uptoBulkEntry {H : Type} : Lit × DataW H → Nat
  | (.string bytes, d) => bytes.length + uptoBulk d + 1
  | (_, d) => uptoBulk d + 1
 end
def uptoSmall : (H : Type) → List (DataW H) → Bool := fun _ ds => decide (uptoBulkAll ds ≤ 1048576)
def OpenSpec.upto (s : _root_.Go.ChangeSpec) : _root_.Go.OpenSpec := { _root_.Go.OpenSpec.ofChange s with cond := some uptoSmall }

/-- 'laws.FnExactIsQueue', WHERE WHAT IT READS IS OF BULK AT MOST 1048576: true; the input reads as it did. -/
def fnExactIsQueueUptoRow : OpenClaim := { program := "ytghfdoibabaadaa", sum := "0f85c2cfab8a9b45d4f88282c64811a559ddbd9c8631efb45cab1d9b10845be9", func := "loop.example/g00843/laws.FnExactIsQueue", spec := "fnExactIsQueue", unfollowed := true, recurses := true, apart := false, narrowed := true }
def FnExactIsQueueUptoSaid : Prop := fnExactIsQueueUptoRow.holds Try.pinned (OpenSpec.upto fnExactIsQueueSpec)

/-- 'laws.FnExactTakeQueue', WHERE WHAT IT READS IS OF BULK AT MOST 1048576: true; the input reads as it did. -/
def fnExactTakeQueueUptoRow : OpenClaim := { program := "ytghfdoibabaadaa", sum := "0f85c2cfab8a9b45d4f88282c64811a559ddbd9c8631efb45cab1d9b10845be9", func := "loop.example/g00843/laws.FnExactTakeQueue", spec := "fnExactTakeQueue", unfollowed := true, recurses := true, apart := false, narrowed := true }
def FnExactTakeQueueUptoSaid : Prop := fnExactTakeQueueUptoRow.holds Try.pinned (OpenSpec.upto fnExactTakeQueueSpec)

/-- 'laws.FnExactSettleQueue', WHERE WHAT IT READS IS OF BULK AT MOST 1048576: true; the input reads as it did. -/
def fnExactSettleQueueUptoRow : OpenClaim := { program := "ytghfdoibabaadaa", sum := "0f85c2cfab8a9b45d4f88282c64811a559ddbd9c8631efb45cab1d9b10845be9", func := "loop.example/g00843/laws.FnExactSettleQueue", spec := "fnExactSettleQueue", inPlace := ["slices.overlaps[loop.example/g00843/impl.Waiter]"], unfollowed := true, recurses := true, apart := false, narrowed := true }
def FnExactSettleQueueUptoSaid : Prop := fnExactSettleQueueUptoRow.holds Try.pinned (OpenSpec.upto fnExactSettleQueueSpec)

/-- 'laws.FnExactEndQueue', WHERE WHAT IT READS IS OF BULK AT MOST 1048576: true; the input reads as it did. -/
def fnExactEndQueueUptoRow : OpenClaim := { program := "ytghfdoibabaadaa", sum := "0f85c2cfab8a9b45d4f88282c64811a559ddbd9c8631efb45cab1d9b10845be9", func := "loop.example/g00843/laws.FnExactEndQueue", spec := "fnExactEndQueue", inPlace := ["slices.overlaps[loop.example/g00843/impl.Waiter]"], unfollowed := true, recurses := true, apart := false, narrowed := true }
def FnExactEndQueueUptoSaid : Prop := fnExactEndQueueUptoRow.holds Try.pinned (OpenSpec.upto fnExactEndQueueSpec)

/-- 'laws.FnExactWithdrawIrq', WHERE WHAT IT READS IS OF BULK AT MOST 1048576: true; the input reads as it did. -/
def fnExactWithdrawIrqUptoRow : OpenClaim := { program := "ytghfdoibabaadaa", sum := "0f85c2cfab8a9b45d4f88282c64811a559ddbd9c8631efb45cab1d9b10845be9", func := "loop.example/g00843/laws.FnExactWithdrawIrq", spec := "fnExactWithdrawIrq", inPlace := ["slices.overlaps[loop.example/g00843/impl.Waiter]"], unfollowed := true, recurses := true, apart := false, narrowed := true }
def FnExactWithdrawIrqUptoSaid : Prop := fnExactWithdrawIrqUptoRow.holds Try.pinned (OpenSpec.upto fnExactWithdrawIrqSpec)

/-- 'laws.FnExactOfferIrq', WHERE WHAT IT READS IS OF BULK AT MOST 1048576: true; the input reads as it did. -/
def fnExactOfferIrqUptoRow : OpenClaim := { program := "ytghfdoibabaadaa", sum := "0f85c2cfab8a9b45d4f88282c64811a559ddbd9c8631efb45cab1d9b10845be9", func := "loop.example/g00843/laws.FnExactOfferIrq", spec := "fnExactOfferIrq", inPlace := ["slices.overlaps[loop.example/g00843/impl.Waiter]"], unfollowed := true, recurses := true, apart := false, narrowed := true }
def FnExactOfferIrqUptoSaid : Prop := fnExactOfferIrqUptoRow.holds Try.pinned (OpenSpec.upto fnExactOfferIrqSpec)

/-- 'laws.FnExactServeQueue', WHERE WHAT IT READS IS OF BULK AT MOST 1048576: true; the input reads as it did. -/
def fnExactServeQueueUptoRow : OpenClaim := { program := "ytghfdoibabaadaa", sum := "0f85c2cfab8a9b45d4f88282c64811a559ddbd9c8631efb45cab1d9b10845be9", func := "loop.example/g00843/laws.FnExactServeQueue", spec := "fnExactServeQueue", inPlace := ["slices.overlaps[loop.example/g00843/impl.Waiter]"], unfollowed := true, recurses := true, apart := false, narrowed := true }
def FnExactServeQueueUptoSaid : Prop := fnExactServeQueueUptoRow.holds Try.pinned (OpenSpec.upto fnExactServeQueueSpec)

/-- 'laws.FnExactPendingIrqs', WHERE WHAT IT READS IS OF BULK AT MOST 1048576: true; the input reads as it did. -/
def fnExactPendingIrqsUptoRow : OpenClaim := { program := "ytghfdoibabaadaa", sum := "0f85c2cfab8a9b45d4f88282c64811a559ddbd9c8631efb45cab1d9b10845be9", func := "loop.example/g00843/laws.FnExactPendingIrqs", spec := "fnExactPendingIrqs", unfollowed := true, recurses := true, apart := false, narrowed := true }
def FnExactPendingIrqsUptoSaid : Prop := fnExactPendingIrqsUptoRow.holds Try.pinned (OpenSpec.upto fnExactPendingIrqsSpec)

end Rows
end Go.Proofs.Ytghfdoibabaadaa
