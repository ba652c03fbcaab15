/-
  No cell of these rows narrows 'for every input' (looked for: loops, veiled, ifaces, maps, wideKeys, modest, calm, conditions, laid).
  DERIVED. THE GIVEN ROWS OF THIS SEAT. 7 by the template 'for every input the law returns true; each argument reads behind the call as it read before'; 0 by the template 'total and deterministic' (their statements: YtengaccnncnipaaGreatTotals.lean).
  GIVEN WITH THE SEED: the statements are not yours to turn. If you find one false, say at which input.
  Laid BY PROGRAM, IN A SANDBOX (cutbox-rows.mjs): the forced cells as the released guide's own fill.sh prints them over the translation b0fcc581fedfeadc… (all of the seat's roots in one cut). By AI agents, Wed Nov 11 2026. No macro, syntax, notation, axiom, sorry.
-/
import Derived.Test.YtengaccnncnipaaGreatChecked
import GoSem.Claim
import GoSem.ClaimJoined
import GoSem.ClaimMapViews
import Derived.JoinedTies
import Derived.KernelRfl
namespace Go.Proofs.YtengaccnncnipaaGreat
/- THE CELL 'sum', in the pinned program and in every row, IS THE sha256 OF THE DUMP (.gsa) THAT YtengaccnncnipaaGreatProg.lean LOADS. Nothing in Lean hashes anything: it is a label: what it is worth is what the hold of that sum in a sandbox is worth. -/
noncomputable def Tryz.pinned : Pinned := { name := "ytengaccnncnipaagreat", sum := "b0fcc581fedfeadcfeeab4dcead432f61ab5b63abee1255fecb41d2adae1240f", checked := Tryz.checked }
namespace Rows
def none {H : Type} : Left H := { results := [], args := [] }

/-- 'laws.FnExactSetMask': WHATEVER THE INPUT: true; the input reads as it did. -/
def fnExactSetMaskSpec : ChangeSpec := { name := "fnExactSetMask", fn := fun _ => fun
  | [d1, d2] => { results := [.lit (.bool true)], args := [d1, d2] }
  | _ => none }
def fnExactSetMaskRow : OpenClaim := { program := "ytengaccnncnipaagreat", sum := "b0fcc581fedfeadcfeeab4dcead432f61ab5b63abee1255fecb41d2adae1240f", func := "loop.example/g00843/laws.FnExactSetMask", spec := "fnExactSetMask", unfollowed := true, recurses := true, apart := false }
def FnExactSetMaskSaid : Prop := fnExactSetMaskRow.holds Tryz.pinned (OpenSpec.ofChange fnExactSetMaskSpec)

/-- ITS FALSE NEIGHBOUR: 'it returns false'. Refute it at one input. -/
def fnExactSetMaskWrong : ChangeSpec := { name := "fnExactSetMask", fn := fun _ => fun
  | [d1, d2] => { results := [.lit (.bool false)], args := [d1, d2] }
  | _ => none }
def FnExactSetMaskWrongFalsely : Prop := fnExactSetMaskRow.holds Tryz.pinned (OpenSpec.ofChange fnExactSetMaskWrong)

/-- 'laws.FnExactTakeIrq': WHATEVER THE INPUT: true; the input reads as it did. -/
def fnExactTakeIrqSpec : ChangeSpec := { name := "fnExactTakeIrq", fn := fun _ => fun
  | [d] => { results := [.lit (.bool true)], args := [d] }
  | _ => none }
def fnExactTakeIrqRow : OpenClaim := { program := "ytengaccnncnipaagreat", sum := "b0fcc581fedfeadcfeeab4dcead432f61ab5b63abee1255fecb41d2adae1240f", func := "loop.example/g00843/laws.FnExactTakeIrq", spec := "fnExactTakeIrq", unfollowed := true, recurses := true, apart := false }
def FnExactTakeIrqSaid : Prop := fnExactTakeIrqRow.holds Tryz.pinned (OpenSpec.ofChange fnExactTakeIrqSpec)

/-- ITS FALSE NEIGHBOUR: 'it returns false'. Refute it at one input. -/
def fnExactTakeIrqWrong : ChangeSpec := { name := "fnExactTakeIrq", fn := fun _ => fun
  | [d] => { results := [.lit (.bool false)], args := [d] }
  | _ => none }
def FnExactTakeIrqWrongFalsely : Prop := fnExactTakeIrqRow.holds Tryz.pinned (OpenSpec.ofChange fnExactTakeIrqWrong)

/-- 'laws.FnExactLeaveIrq': WHATEVER THE INPUT: true; the input reads as it did. -/
def fnExactLeaveIrqSpec : ChangeSpec := { name := "fnExactLeaveIrq", fn := fun _ => fun
  | [d] => { results := [.lit (.bool true)], args := [d] }
  | _ => none }
def fnExactLeaveIrqRow : OpenClaim := { program := "ytengaccnncnipaagreat", sum := "b0fcc581fedfeadcfeeab4dcead432f61ab5b63abee1255fecb41d2adae1240f", func := "loop.example/g00843/laws.FnExactLeaveIrq", spec := "fnExactLeaveIrq", inPlace := ["slices.overlaps[loop.example/g00843/impl.Waiter]"], unfollowed := true, recurses := true, apart := false }
def FnExactLeaveIrqSaid : Prop := fnExactLeaveIrqRow.holds Tryz.pinned (OpenSpec.ofChange fnExactLeaveIrqSpec)

/-- ITS FALSE NEIGHBOUR: 'it returns false'. Refute it at one input. -/
def fnExactLeaveIrqWrong : ChangeSpec := { name := "fnExactLeaveIrq", fn := fun _ => fun
  | [d] => { results := [.lit (.bool false)], args := [d] }
  | _ => none }
def FnExactLeaveIrqWrongFalsely : Prop := fnExactLeaveIrqRow.holds Tryz.pinned (OpenSpec.ofChange fnExactLeaveIrqWrong)

/-- 'laws.FnExactRaiseIrq': WHATEVER THE INPUT: true; the input reads as it did. -/
def fnExactRaiseIrqSpec : ChangeSpec := { name := "fnExactRaiseIrq", fn := fun _ => fun
  | [d1, d2, d3] => { results := [.lit (.bool true)], args := [d1, d2, d3] }
  | _ => none }
def fnExactRaiseIrqRow : OpenClaim := { program := "ytengaccnncnipaagreat", sum := "b0fcc581fedfeadcfeeab4dcead432f61ab5b63abee1255fecb41d2adae1240f", func := "loop.example/g00843/laws.FnExactRaiseIrq", spec := "fnExactRaiseIrq", inPlace := ["slices.overlaps[loop.example/g00843/impl.Waiter]"], unfollowed := true, recurses := true, apart := false }
def FnExactRaiseIrqSaid : Prop := fnExactRaiseIrqRow.holds Tryz.pinned (OpenSpec.ofChange fnExactRaiseIrqSpec)

/-- ITS FALSE NEIGHBOUR: 'it returns false'. Refute it at one input. -/
def fnExactRaiseIrqWrong : ChangeSpec := { name := "fnExactRaiseIrq", fn := fun _ => fun
  | [d1, d2, d3] => { results := [.lit (.bool false)], args := [d1, d2, d3] }
  | _ => none }
def FnExactRaiseIrqWrongFalsely : Prop := fnExactRaiseIrqRow.holds Tryz.pinned (OpenSpec.ofChange fnExactRaiseIrqWrong)

/-- 'laws.FnExactRunOps': WHATEVER THE INPUT: true; the input reads as it did. -/
def fnExactRunOpsSpec : ChangeSpec := { name := "fnExactRunOps", fn := fun _ => fun
  | [d1, d2] => { results := [.lit (.bool true)], args := [d1, d2] }
  | _ => none }
def fnExactRunOpsRow : OpenClaim := { program := "ytengaccnncnipaagreat", sum := "b0fcc581fedfeadcfeeab4dcead432f61ab5b63abee1255fecb41d2adae1240f", func := "loop.example/g00843/laws.FnExactRunOps", spec := "fnExactRunOps", inPlace := ["slices.overlaps[loop.example/g00843/impl.Waiter]"], unfollowed := true, recurses := true, apart := false }
def FnExactRunOpsSaid : Prop := fnExactRunOpsRow.holds Tryz.pinned (OpenSpec.ofChange fnExactRunOpsSpec)

/-- ITS FALSE NEIGHBOUR: 'it returns false'. Refute it at one input. -/
def fnExactRunOpsWrong : ChangeSpec := { name := "fnExactRunOps", fn := fun _ => fun
  | [d1, d2] => { results := [.lit (.bool false)], args := [d1, d2] }
  | _ => none }
def FnExactRunOpsWrongFalsely : Prop := fnExactRunOpsRow.holds Tryz.pinned (OpenSpec.ofChange fnExactRunOpsWrong)

/-- 'laws.FnInterfaces': WHATEVER THE INPUT: true; the input reads as it did. -/
def fnInterfacesSpec : ChangeSpec := { name := "fnInterfaces", fn := fun _ => fun
  | [d] => { results := [.lit (.bool true)], args := [d] }
  | _ => none }
def fnInterfacesRow : OpenClaim := { program := "ytengaccnncnipaagreat", sum := "b0fcc581fedfeadcfeeab4dcead432f61ab5b63abee1255fecb41d2adae1240f", func := "loop.example/g00843/laws.FnInterfaces", spec := "fnInterfaces", inPlace := ["slices.overlaps[loop.example/g00843/impl.Waiter]"], unfollowed := true, recurses := true, apart := false }
def FnInterfacesSaid : Prop := fnInterfacesRow.holds Tryz.pinned (OpenSpec.ofChange fnInterfacesSpec)

/-- ITS FALSE NEIGHBOUR: 'it returns false'. Refute it at one input. -/
def fnInterfacesWrong : ChangeSpec := { name := "fnInterfaces", fn := fun _ => fun
  | [d] => { results := [.lit (.bool false)], args := [d] }
  | _ => none }
def FnInterfacesWrongFalsely : Prop := fnInterfacesRow.holds Tryz.pinned (OpenSpec.ofChange fnInterfacesWrong)

/-- 'laws.FnOps': WHATEVER THE INPUT: true; the input reads as it did. -/
def fnOpsSpec : ChangeSpec := { name := "fnOps", fn := fun _ => fun
  | [d] => { results := [.lit (.bool true)], args := [d] }
  | _ => none }
def fnOpsRow : OpenClaim := { program := "ytengaccnncnipaagreat", sum := "b0fcc581fedfeadcfeeab4dcead432f61ab5b63abee1255fecb41d2adae1240f", func := "loop.example/g00843/laws.FnOps", spec := "fnOps", inPlace := ["slices.overlaps[loop.example/g00843/impl.Waiter]"], unfollowed := true, recurses := true, apart := false }
def FnOpsSaid : Prop := fnOpsRow.holds Tryz.pinned (OpenSpec.ofChange fnOpsSpec)

/-- ITS FALSE NEIGHBOUR: 'it returns false'. Refute it at one input. -/
def fnOpsWrong : ChangeSpec := { name := "fnOps", fn := fun _ => fun
  | [d] => { results := [.lit (.bool false)], args := [d] }
  | _ => none }
def FnOpsWrongFalsely : Prop := fnOpsRow.holds Tryz.pinned (OpenSpec.ofChange fnOpsWrong)

/- THE SECOND FORM. 'bulk': how many values and letters a reading holds, each counted each time it is reached (what is shared counts as often as it is met; a slice's spare places count too). A statement '..UptoSaid' is the law's where the arguments, and the package variables that the reading takes, are together of bulk at most 1048576: NARROWER than '..Said'. Prove '..Said' where nothing that the law and all that it calls make is longer than what came in: it says more and counts as full. Else prove '..UptoSaid'. A law counts once. -/
mutual
def uptoBulk {H : Type} : DataW H → Nat
  | .lit (.string bytes) => bytes.length + 1
  | .lit _ => 1
  | .nil => 1
  | .ptr d => uptoBulk d + 1
  | .slice elems spare => uptoBulkAll elems + uptoBulkAll spare + 1
  | .agg parts => uptoBulkAll parts + 1
  | .iface _ d => uptoBulk d + 1
  | .map entries => uptoBulkEntries entries + 1
  | .held _ => 1
def uptoBulkAll {H : Type} : List (DataW H) → Nat
  | [] => 0
  | d :: r => uptoBulk d + uptoBulkAll r
def uptoBulkEntries {H : Type} : List (Lit × DataW H) → Nat
  | [] => 0
  | x :: r => uptoBulkEntry x + uptoBulkEntries r
def uptoBulkEntry {H : Type} : Lit × DataW H → Nat
  | (.string bytes, d) => bytes.length + uptoBulk d + 1
  | (_, d) => uptoBulk d + 1
 end
def uptoSmall : (H : Type) → List (DataW H) → Bool := fun _ ds => decide (uptoBulkAll ds ≤ 1048576)
def OpenSpec.upto (s : _root_.Go.ChangeSpec) : _root_.Go.OpenSpec := { _root_.Go.OpenSpec.ofChange s with cond := some uptoSmall }

/-- 'laws.FnExactSetMask', WHERE WHAT IT READS IS OF BULK AT MOST 1048576: true; the input reads as it did. -/
def fnExactSetMaskUptoRow : OpenClaim := { program := "ytengaccnncnipaagreat", sum := "b0fcc581fedfeadcfeeab4dcead432f61ab5b63abee1255fecb41d2adae1240f", func := "loop.example/g00843/laws.FnExactSetMask", spec := "fnExactSetMask", unfollowed := true, recurses := true, apart := false, narrowed := true }
def FnExactSetMaskUptoSaid : Prop := fnExactSetMaskUptoRow.holds Tryz.pinned (OpenSpec.upto fnExactSetMaskSpec)

/-- 'laws.FnExactTakeIrq', WHERE WHAT IT READS IS OF BULK AT MOST 1048576: true; the input reads as it did. -/
def fnExactTakeIrqUptoRow : OpenClaim := { program := "ytengaccnncnipaagreat", sum := "b0fcc581fedfeadcfeeab4dcead432f61ab5b63abee1255fecb41d2adae1240f", func := "loop.example/g00843/laws.FnExactTakeIrq", spec := "fnExactTakeIrq", unfollowed := true, recurses := true, apart := false, narrowed := true }
def FnExactTakeIrqUptoSaid : Prop := fnExactTakeIrqUptoRow.holds Tryz.pinned (OpenSpec.upto fnExactTakeIrqSpec)

/-- 'laws.FnExactLeaveIrq', WHERE WHAT IT READS IS OF BULK AT MOST 1048576: true; the input reads as it did. -/
def fnExactLeaveIrqUptoRow : OpenClaim := { program := "ytengaccnncnipaagreat", sum := "b0fcc581fedfeadcfeeab4dcead432f61ab5b63abee1255fecb41d2adae1240f", func := "loop.example/g00843/laws.FnExactLeaveIrq", spec := "fnExactLeaveIrq", inPlace := ["slices.overlaps[loop.example/g00843/impl.Waiter]"], unfollowed := true, recurses := true, apart := false, narrowed := true }
def FnExactLeaveIrqUptoSaid : Prop := fnExactLeaveIrqUptoRow.holds Tryz.pinned (OpenSpec.upto fnExactLeaveIrqSpec)

/-- 'laws.FnExactRaiseIrq', WHERE WHAT IT READS IS OF BULK AT MOST 1048576: true; the input reads as it did. -/
def fnExactRaiseIrqUptoRow : OpenClaim := { program := "ytengaccnncnipaagreat", sum := "b0fcc581fedfeadcfeeab4dcead432f61ab5b63abee1255fecb41d2adae1240f", func := "loop.example/g00843/laws.FnExactRaiseIrq", spec := "fnExactRaiseIrq", inPlace := ["slices.overlaps[loop.example/g00843/impl.Waiter]"], unfollowed := true, recurses := true, apart := false, narrowed := true }
def FnExactRaiseIrqUptoSaid : Prop := fnExactRaiseIrqUptoRow.holds Tryz.pinned (OpenSpec.upto fnExactRaiseIrqSpec)

/-- 'laws.FnExactRunOps', WHERE WHAT IT READS IS OF BULK AT MOST 1048576: true; the input reads as it did. -/
def fnExactRunOpsUptoRow : OpenClaim := { program := "ytengaccnncnipaagreat", sum := "b0fcc581fedfeadcfeeab4dcead432f61ab5b63abee1255fecb41d2adae1240f", func := "loop.example/g00843/laws.FnExactRunOps", spec := "fnExactRunOps", inPlace := ["slices.overlaps[loop.example/g00843/impl.Waiter]"], unfollowed := true, recurses := true, apart := false, narrowed := true }
def FnExactRunOpsUptoSaid : Prop := fnExactRunOpsUptoRow.holds Tryz.pinned (OpenSpec.upto fnExactRunOpsSpec)

/-- 'laws.FnInterfaces', WHERE WHAT IT READS IS OF BULK AT MOST 1048576: true; the input reads as it did. -/
def fnInterfacesUptoRow : OpenClaim := { program := "ytengaccnncnipaagreat", sum := "b0fcc581fedfeadcfeeab4dcead432f61ab5b63abee1255fecb41d2adae1240f", func := "loop.example/g00843/laws.FnInterfaces", spec := "fnInterfaces", inPlace := ["slices.overlaps[loop.example/g00843/impl.Waiter]"], unfollowed := true, recurses := true, apart := false, narrowed := true }
def FnInterfacesUptoSaid : Prop := fnInterfacesUptoRow.holds Tryz.pinned (OpenSpec.upto fnInterfacesSpec)

/-- 'laws.FnOps', WHERE WHAT IT READS IS OF BULK AT MOST 1048576: true; the input reads as it did. -/
def fnOpsUptoRow : OpenClaim := { program := "ytengaccnncnipaagreat", sum := "b0fcc581fedfeadcfeeab4dcead432f61ab5b63abee1255fecb41d2adae1240f", func := "loop.example/g00843/laws.FnOps", spec := "fnOps", inPlace := ["slices.overlaps[loop.example/g00843/impl.Waiter]"], unfollowed := true, recurses := true, apart := false, narrowed := true }
def FnOpsUptoSaid : Prop := fnOpsUptoRow.holds Tryz.pinned (OpenSpec.upto fnOpsSpec)

end Rows
end Go.Proofs.YtengaccnncnipaaGreat
