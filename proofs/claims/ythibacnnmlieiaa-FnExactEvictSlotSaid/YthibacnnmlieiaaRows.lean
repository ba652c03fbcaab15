/-
  No cell of these rows narrows 'for every input' (looked for: loops, veiled, ifaces, maps, wideKeys, modest, calm, conditions, laid).
  DERIVED. THE GIVEN ROWS OF THIS SEAT. 9 by the template 'for every input the law returns true; each argument reads behind the call as it read before'; 0 by the template 'total and deterministic' (their statements: YthibacnnmlieiaaTotals.lean).
  GIVEN WITH THE SEED: the statements are not yours to turn. If you find one false, say at which input.
  Laid BY PROGRAM, IN A SANDBOX (cutbox-rows.mjs): the forced cells as the released guide's own fill.sh prints them over the translation 5ec8d50acaa7ffac… (all of the seat's roots in one cut). By AI agents, Wed Nov 11 2026. No macro, syntax, notation, axiom, sorry.
-/
import Derived.Test.YthibacnnmlieiaaChecked
import GoSem.Claim
import GoSem.ClaimJoined
import GoSem.ClaimMapViews
import Derived.JoinedTies
import Derived.KernelRfl
namespace Go.Proofs.Ythibacnnmlieiaa
/- THE CELL 'sum', in the pinned program and in every row, IS THE sha256 OF THE DUMP (.gsa) THAT YthibacnnmlieiaaProg.lean LOADS. Nothing in Lean hashes anything: it is a label: what it is worth is what the hold of that sum in a sandbox is worth. -/
noncomputable def Try.pinned : Pinned := { name := "ythibacnnmlieiaa", sum := "5ec8d50acaa7ffac9e381b9148f50bc3df8c569c988a2db8f6c1d01b46bad10a", checked := Try.checked }
namespace Rows
def none {H : Type} : Left H := { results := [], args := [] }

/-- 'laws.FnExactAreSlots': WHATEVER THE INPUT: true; the input reads as it did. -/
def fnExactAreSlotsSpec : ChangeSpec := { name := "fnExactAreSlots", fn := fun _ => fun
  | [d] => { results := [.lit (.bool true)], args := [d] }
  | _ => none }
def fnExactAreSlotsRow : OpenClaim := { program := "ythibacnnmlieiaa", sum := "5ec8d50acaa7ffac9e381b9148f50bc3df8c569c988a2db8f6c1d01b46bad10a", func := "loop.example/g00843/laws.FnExactAreSlots", spec := "fnExactAreSlots", unfollowed := true, recurses := true, apart := false }
def FnExactAreSlotsSaid : Prop := fnExactAreSlotsRow.holds Try.pinned (OpenSpec.ofChange fnExactAreSlotsSpec)

/-- ITS FALSE NEIGHBOUR: 'it returns false'. Refute it at one input. -/
def fnExactAreSlotsWrong : ChangeSpec := { name := "fnExactAreSlots", fn := fun _ => fun
  | [d] => { results := [.lit (.bool false)], args := [d] }
  | _ => none }
def FnExactAreSlotsWrongFalsely : Prop := fnExactAreSlotsRow.holds Try.pinned (OpenSpec.ofChange fnExactAreSlotsWrong)

/-- 'laws.FnExactFindSlot': WHATEVER THE INPUT: true; the input reads as it did. -/
def fnExactFindSlotSpec : ChangeSpec := { name := "fnExactFindSlot", fn := fun _ => fun
  | [d1, d2] => { results := [.lit (.bool true)], args := [d1, d2] }
  | _ => none }
def fnExactFindSlotRow : OpenClaim := { program := "ythibacnnmlieiaa", sum := "5ec8d50acaa7ffac9e381b9148f50bc3df8c569c988a2db8f6c1d01b46bad10a", func := "loop.example/g00843/laws.FnExactFindSlot", spec := "fnExactFindSlot", unfollowed := true, recurses := true, apart := false }
def FnExactFindSlotSaid : Prop := fnExactFindSlotRow.holds Try.pinned (OpenSpec.ofChange fnExactFindSlotSpec)

/-- ITS FALSE NEIGHBOUR: 'it returns false'. Refute it at one input. -/
def fnExactFindSlotWrong : ChangeSpec := { name := "fnExactFindSlot", fn := fun _ => fun
  | [d1, d2] => { results := [.lit (.bool false)], args := [d1, d2] }
  | _ => none }
def FnExactFindSlotWrongFalsely : Prop := fnExactFindSlotRow.holds Try.pinned (OpenSpec.ofChange fnExactFindSlotWrong)

/-- 'laws.FnExactEmptySlots': WHATEVER THE INPUT: true; the input reads as it did. -/
def fnExactEmptySlotsSpec : ChangeSpec := { name := "fnExactEmptySlots", fn := fun _ => fun
  | [d] => { results := [.lit (.bool true)], args := [d] }
  | _ => none }
def fnExactEmptySlotsRow : OpenClaim := { program := "ythibacnnmlieiaa", sum := "5ec8d50acaa7ffac9e381b9148f50bc3df8c569c988a2db8f6c1d01b46bad10a", func := "loop.example/g00843/laws.FnExactEmptySlots", spec := "fnExactEmptySlots", unfollowed := true, recurses := true, apart := false }
def FnExactEmptySlotsSaid : Prop := fnExactEmptySlotsRow.holds Try.pinned (OpenSpec.ofChange fnExactEmptySlotsSpec)

/-- ITS FALSE NEIGHBOUR: 'it returns false'. Refute it at one input. -/
def fnExactEmptySlotsWrong : ChangeSpec := { name := "fnExactEmptySlots", fn := fun _ => fun
  | [d] => { results := [.lit (.bool false)], args := [d] }
  | _ => none }
def FnExactEmptySlotsWrongFalsely : Prop := fnExactEmptySlotsRow.holds Try.pinned (OpenSpec.ofChange fnExactEmptySlotsWrong)

/-- 'laws.FnExactEndSlot': WHATEVER THE INPUT: true; the input reads as it did. -/
def fnExactEndSlotSpec : ChangeSpec := { name := "fnExactEndSlot", fn := fun _ => fun
  | [d1, d2] => { results := [.lit (.bool true)], args := [d1, d2] }
  | _ => none }
def fnExactEndSlotRow : OpenClaim := { program := "ythibacnnmlieiaa", sum := "5ec8d50acaa7ffac9e381b9148f50bc3df8c569c988a2db8f6c1d01b46bad10a", func := "loop.example/g00843/laws.FnExactEndSlot", spec := "fnExactEndSlot", unfollowed := true, recurses := true, apart := false }
def FnExactEndSlotSaid : Prop := fnExactEndSlotRow.holds Try.pinned (OpenSpec.ofChange fnExactEndSlotSpec)

/-- ITS FALSE NEIGHBOUR: 'it returns false'. Refute it at one input. -/
def fnExactEndSlotWrong : ChangeSpec := { name := "fnExactEndSlot", fn := fun _ => fun
  | [d1, d2] => { results := [.lit (.bool false)], args := [d1, d2] }
  | _ => none }
def FnExactEndSlotWrongFalsely : Prop := fnExactEndSlotRow.holds Try.pinned (OpenSpec.ofChange fnExactEndSlotWrong)

/-- 'laws.FnExactPutIrq': WHATEVER THE INPUT: true; the input reads as it did. -/
def fnExactPutIrqSpec : ChangeSpec := { name := "fnExactPutIrq", fn := fun _ => fun
  | [d1, d2, d3] => { results := [.lit (.bool true)], args := [d1, d2, d3] }
  | _ => none }
def fnExactPutIrqRow : OpenClaim := { program := "ythibacnnmlieiaa", sum := "5ec8d50acaa7ffac9e381b9148f50bc3df8c569c988a2db8f6c1d01b46bad10a", func := "loop.example/g00843/laws.FnExactPutIrq", spec := "fnExactPutIrq", unfollowed := true, recurses := true, apart := false }
def FnExactPutIrqSaid : Prop := fnExactPutIrqRow.holds Try.pinned (OpenSpec.ofChange fnExactPutIrqSpec)

/-- ITS FALSE NEIGHBOUR: 'it returns false'. Refute it at one input. -/
def fnExactPutIrqWrong : ChangeSpec := { name := "fnExactPutIrq", fn := fun _ => fun
  | [d1, d2, d3] => { results := [.lit (.bool false)], args := [d1, d2, d3] }
  | _ => none }
def FnExactPutIrqWrongFalsely : Prop := fnExactPutIrqRow.holds Try.pinned (OpenSpec.ofChange fnExactPutIrqWrong)

/-- 'laws.FnExactEvictSlot': WHATEVER THE INPUT: true; the input reads as it did. -/
def fnExactEvictSlotSpec : ChangeSpec := { name := "fnExactEvictSlot", fn := fun _ => fun
  | [d] => { results := [.lit (.bool true)], args := [d] }
  | _ => none }
def fnExactEvictSlotRow : OpenClaim := { program := "ythibacnnmlieiaa", sum := "5ec8d50acaa7ffac9e381b9148f50bc3df8c569c988a2db8f6c1d01b46bad10a", func := "loop.example/g00843/laws.FnExactEvictSlot", spec := "fnExactEvictSlot", unfollowed := true, recurses := true, apart := false }
def FnExactEvictSlotSaid : Prop := fnExactEvictSlotRow.holds Try.pinned (OpenSpec.ofChange fnExactEvictSlotSpec)

/-- ITS FALSE NEIGHBOUR: 'it returns false'. Refute it at one input. -/
def fnExactEvictSlotWrong : ChangeSpec := { name := "fnExactEvictSlot", fn := fun _ => fun
  | [d] => { results := [.lit (.bool false)], args := [d] }
  | _ => none }
def FnExactEvictSlotWrongFalsely : Prop := fnExactEvictSlotRow.holds Try.pinned (OpenSpec.ofChange fnExactEvictSlotWrong)

/-- 'laws.FnExactTakeSlot': WHATEVER THE INPUT: true; the input reads as it did. -/
def fnExactTakeSlotSpec : ChangeSpec := { name := "fnExactTakeSlot", fn := fun _ => fun
  | [d1, d2] => { results := [.lit (.bool true)], args := [d1, d2] }
  | _ => none }
def fnExactTakeSlotRow : OpenClaim := { program := "ythibacnnmlieiaa", sum := "5ec8d50acaa7ffac9e381b9148f50bc3df8c569c988a2db8f6c1d01b46bad10a", func := "loop.example/g00843/laws.FnExactTakeSlot", spec := "fnExactTakeSlot", unfollowed := true, recurses := true, apart := false }
def FnExactTakeSlotSaid : Prop := fnExactTakeSlotRow.holds Try.pinned (OpenSpec.ofChange fnExactTakeSlotSpec)

/-- ITS FALSE NEIGHBOUR: 'it returns false'. Refute it at one input. -/
def fnExactTakeSlotWrong : ChangeSpec := { name := "fnExactTakeSlot", fn := fun _ => fun
  | [d1, d2] => { results := [.lit (.bool false)], args := [d1, d2] }
  | _ => none }
def FnExactTakeSlotWrongFalsely : Prop := fnExactTakeSlotRow.holds Try.pinned (OpenSpec.ofChange fnExactTakeSlotWrong)

/-- 'laws.FnExactActiveIrqs': WHATEVER THE INPUT: true; the input reads as it did. -/
def fnExactActiveIrqsSpec : ChangeSpec := { name := "fnExactActiveIrqs", fn := fun _ => fun
  | [d] => { results := [.lit (.bool true)], args := [d] }
  | _ => none }
def fnExactActiveIrqsRow : OpenClaim := { program := "ythibacnnmlieiaa", sum := "5ec8d50acaa7ffac9e381b9148f50bc3df8c569c988a2db8f6c1d01b46bad10a", func := "loop.example/g00843/laws.FnExactActiveIrqs", spec := "fnExactActiveIrqs", unfollowed := true, recurses := true, apart := false }
def FnExactActiveIrqsSaid : Prop := fnExactActiveIrqsRow.holds Try.pinned (OpenSpec.ofChange fnExactActiveIrqsSpec)

/-- ITS FALSE NEIGHBOUR: 'it returns false'. Refute it at one input. -/
def fnExactActiveIrqsWrong : ChangeSpec := { name := "fnExactActiveIrqs", fn := fun _ => fun
  | [d] => { results := [.lit (.bool false)], args := [d] }
  | _ => none }
def FnExactActiveIrqsWrongFalsely : Prop := fnExactActiveIrqsRow.holds Try.pinned (OpenSpec.ofChange fnExactActiveIrqsWrong)

/-- 'laws.FnSlotEnds': WHATEVER THE INPUT: true; the input reads as it did. -/
def fnSlotEndsSpec : ChangeSpec := { name := "fnSlotEnds", fn := fun _ => fun
  | [d] => { results := [.lit (.bool true)], args := [d] }
  | _ => none }
def fnSlotEndsRow : OpenClaim := { program := "ythibacnnmlieiaa", sum := "5ec8d50acaa7ffac9e381b9148f50bc3df8c569c988a2db8f6c1d01b46bad10a", func := "loop.example/g00843/laws.FnSlotEnds", spec := "fnSlotEnds", unfollowed := true, recurses := true, apart := false }
def FnSlotEndsSaid : Prop := fnSlotEndsRow.holds Try.pinned (OpenSpec.ofChange fnSlotEndsSpec)

/-- ITS FALSE NEIGHBOUR: 'it returns false'. Refute it at one input. -/
def fnSlotEndsWrong : ChangeSpec := { name := "fnSlotEnds", fn := fun _ => fun
  | [d] => { results := [.lit (.bool false)], args := [d] }
  | _ => none }
def FnSlotEndsWrongFalsely : Prop := fnSlotEndsRow.holds Try.pinned (OpenSpec.ofChange fnSlotEndsWrong)

/- THE SECOND FORM. 'bulk': how many values and letters a reading holds, each counted each time it is reached (what is shared counts as often as it is met; a slice's spare places count too). A statement '..UptoSaid' is the law's where the arguments, and the package variables that the reading takes, are together of bulk at most 1048576: NARROWER than '..Said'. Prove '..Said' where nothing that the law and all that it calls make is longer than what came in: it says more and counts as full. Else prove '..UptoSaid'. A law counts once. -/
mutual
def uptoBulk {H : Type} : DataW H → Nat
  | .lit (.string bytes) => bytes.length + 1
  | .lit _ => 1
  | .nil => 1
  | .ptr d => uptoBulk d + 1
  | .slice elems spare => uptoBulkAll elems + uptoBulkAll spare + 1
  | .agg parts => uptoBulkAll parts + 1
  | .iface _ d => uptoBulk d + 1
  | .map entries => uptoBulkEntries entries + 1
  | .held _ => 1
def uptoBulkAll {H : Type} : List (DataW H) → Nat
  | [] => 0
  | d :: r => uptoBulk d + uptoBulkAll r
def uptoBulkEntries {H : Type} : List (Lit × DataW H) → Nat
  | [] => 0
  | x :: r => uptoBulkEntry x + uptoBulkEntries r
def uptoBulkEntry {H : Type} : Lit × DataW H → Nat
  | (.string bytes, d) => bytes.length + uptoBulk d + 1
  | (_, d) => uptoBulk d + 1
 end
def uptoSmall : (H : Type) → List (DataW H) → Bool := fun _ ds => decide (uptoBulkAll ds ≤ 1048576)
def OpenSpec.upto (s : _root_.Go.ChangeSpec) : _root_.Go.OpenSpec := { _root_.Go.OpenSpec.ofChange s with cond := some uptoSmall }

/-- 'laws.FnExactAreSlots', WHERE WHAT IT READS IS OF BULK AT MOST 1048576: true; the input reads as it did. -/
def fnExactAreSlotsUptoRow : OpenClaim := { program := "ythibacnnmlieiaa", sum := "5ec8d50acaa7ffac9e381b9148f50bc3df8c569c988a2db8f6c1d01b46bad10a", func := "loop.example/g00843/laws.FnExactAreSlots", spec := "fnExactAreSlots", unfollowed := true, recurses := true, apart := false, narrowed := true }
def FnExactAreSlotsUptoSaid : Prop := fnExactAreSlotsUptoRow.holds Try.pinned (OpenSpec.upto fnExactAreSlotsSpec)

/-- 'laws.FnExactFindSlot', WHERE WHAT IT READS IS OF BULK AT MOST 1048576: true; the input reads as it did. -/
def fnExactFindSlotUptoRow : OpenClaim := { program := "ythibacnnmlieiaa", sum := "5ec8d50acaa7ffac9e381b9148f50bc3df8c569c988a2db8f6c1d01b46bad10a", func := "loop.example/g00843/laws.FnExactFindSlot", spec := "fnExactFindSlot", unfollowed := true, recurses := true, apart := false, narrowed := true }
def FnExactFindSlotUptoSaid : Prop := fnExactFindSlotUptoRow.holds Try.pinned (OpenSpec.upto fnExactFindSlotSpec)

/-- 'laws.FnExactEmptySlots', WHERE WHAT IT READS IS OF BULK AT MOST 1048576: true; the input reads as it did. -/
def fnExactEmptySlotsUptoRow : OpenClaim := { program := "ythibacnnmlieiaa", sum := "5ec8d50acaa7ffac9e381b9148f50bc3df8c569c988a2db8f6c1d01b46bad10a", func := "loop.example/g00843/laws.FnExactEmptySlots", spec := "fnExactEmptySlots", unfollowed := true, recurses := true, apart := false, narrowed := true }
def FnExactEmptySlotsUptoSaid : Prop := fnExactEmptySlotsUptoRow.holds Try.pinned (OpenSpec.upto fnExactEmptySlotsSpec)

/-- 'laws.FnExactEndSlot', WHERE WHAT IT READS IS OF BULK AT MOST 1048576: true; the input reads as it did. -/
def fnExactEndSlotUptoRow : OpenClaim := { program := "ythibacnnmlieiaa", sum := "5ec8d50acaa7ffac9e381b9148f50bc3df8c569c988a2db8f6c1d01b46bad10a", func := "loop.example/g00843/laws.FnExactEndSlot", spec := "fnExactEndSlot", unfollowed := true, recurses := true, apart := false, narrowed := true }
def FnExactEndSlotUptoSaid : Prop := fnExactEndSlotUptoRow.holds Try.pinned (OpenSpec.upto fnExactEndSlotSpec)

/-- 'laws.FnExactPutIrq', WHERE WHAT IT READS IS OF BULK AT MOST 1048576: true; the input reads as it did. -/
def fnExactPutIrqUptoRow : OpenClaim := { program := "ythibacnnmlieiaa", sum := "5ec8d50acaa7ffac9e381b9148f50bc3df8c569c988a2db8f6c1d01b46bad10a", func := "loop.example/g00843/laws.FnExactPutIrq", spec := "fnExactPutIrq", unfollowed := true, recurses := true, apart := false, narrowed := true }
def FnExactPutIrqUptoSaid : Prop := fnExactPutIrqUptoRow.holds Try.pinned (OpenSpec.upto fnExactPutIrqSpec)

/-- 'laws.FnExactEvictSlot', WHERE WHAT IT READS IS OF BULK AT MOST 1048576: true; the input reads as it did. -/
def fnExactEvictSlotUptoRow : OpenClaim := { program := "ythibacnnmlieiaa", sum := "5ec8d50acaa7ffac9e381b9148f50bc3df8c569c988a2db8f6c1d01b46bad10a", func := "loop.example/g00843/laws.FnExactEvictSlot", spec := "fnExactEvictSlot", unfollowed := true, recurses := true, apart := false, narrowed := true }
def FnExactEvictSlotUptoSaid : Prop := fnExactEvictSlotUptoRow.holds Try.pinned (OpenSpec.upto fnExactEvictSlotSpec)

/-- 'laws.FnExactTakeSlot', WHERE WHAT IT READS IS OF BULK AT MOST 1048576: true; the input reads as it did. -/
def fnExactTakeSlotUptoRow : OpenClaim := { program := "ythibacnnmlieiaa", sum := "5ec8d50acaa7ffac9e381b9148f50bc3df8c569c988a2db8f6c1d01b46bad10a", func := "loop.example/g00843/laws.FnExactTakeSlot", spec := "fnExactTakeSlot", unfollowed := true, recurses := true, apart := false, narrowed := true }
def FnExactTakeSlotUptoSaid : Prop := fnExactTakeSlotUptoRow.holds Try.pinned (OpenSpec.upto fnExactTakeSlotSpec)

/-- 'laws.FnExactActiveIrqs', WHERE WHAT IT READS IS OF BULK AT MOST 1048576: true; the input reads as it did. -/
def fnExactActiveIrqsUptoRow : OpenClaim := { program := "ythibacnnmlieiaa", sum := "5ec8d50acaa7ffac9e381b9148f50bc3df8c569c988a2db8f6c1d01b46bad10a", func := "loop.example/g00843/laws.FnExactActiveIrqs", spec := "fnExactActiveIrqs", unfollowed := true, recurses := true, apart := false, narrowed := true }
def FnExactActiveIrqsUptoSaid : Prop := fnExactActiveIrqsUptoRow.holds Try.pinned (OpenSpec.upto fnExactActiveIrqsSpec)

/-- 'laws.FnSlotEnds', WHERE WHAT IT READS IS OF BULK AT MOST 1048576: true; the input reads as it did. -/
def fnSlotEndsUptoRow : OpenClaim := { program := "ythibacnnmlieiaa", sum := "5ec8d50acaa7ffac9e381b9148f50bc3df8c569c988a2db8f6c1d01b46bad10a", func := "loop.example/g00843/laws.FnSlotEnds", spec := "fnSlotEnds", unfollowed := true, recurses := true, apart := false, narrowed := true }
def FnSlotEndsUptoSaid : Prop := fnSlotEndsUptoRow.holds Try.pinned (OpenSpec.upto fnSlotEndsSpec)

end Rows
end Go.Proofs.Ythibacnnmlieiaa
