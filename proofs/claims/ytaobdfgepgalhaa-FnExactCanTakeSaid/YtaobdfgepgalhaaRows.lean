/-
  No cell of these rows narrows 'for every input' (looked for: loops, veiled, ifaces, maps, wideKeys, modest, calm, conditions, laid).
  DERIVED. THE GIVEN ROWS OF THIS SEAT. 4 by the template 'for every input the law returns true; each argument reads behind the call as it read before'; 0 by the template 'total and deterministic' (their statements: YtaobdfgepgalhaaTotals.lean).
  GIVEN WITH THE SEED: the statements are not yours to turn. If you find one false, say at which input.
  Laid BY PROGRAM, IN A SANDBOX (cutbox-rows.mjs): the forced cells as the released guide's own fill.sh prints them over the translation 3224e8ab44ed85f4… (all of the seat's roots in one cut). By AI agents, Wed Nov 11 2026. No macro, syntax, notation, axiom, sorry.
-/
import Derived.Test.YtaobdfgepgalhaaChecked
import GoSem.Claim
import GoSem.ClaimJoined
import GoSem.ClaimMapViews
import Derived.JoinedTies
import Derived.KernelRfl
namespace Go.Proofs.Ytaobdfgepgalhaa
/- THE CELL 'sum', in the pinned program and in every row, IS THE sha256 OF THE DUMP (.gsa) THAT YtaobdfgepgalhaaProg.lean LOADS. Nothing in Lean hashes anything: it is a label: what it is worth is what the hold of that sum in a sandbox is worth. -/
noncomputable def Try.pinned : Pinned := { name := "ytaobdfgepgalhaa", sum := "3224e8ab44ed85f42a8443005023044f20b70d3c3b032d4a818b1e9816022dcc", checked := Try.checked }
namespace Rows
def none {H : Type} : Left H := { results := [], args := [] }

/-- 'laws.FnExactIsInterface': WHATEVER THE INPUT: true; the input reads as it did. -/
def fnExactIsInterfaceSpec : ChangeSpec := { name := "fnExactIsInterface", fn := fun _ => fun
  | [d] => { results := [.lit (.bool true)], args := [d] }
  | _ => none }
def fnExactIsInterfaceRow : OpenClaim := { program := "ytaobdfgepgalhaa", sum := "3224e8ab44ed85f42a8443005023044f20b70d3c3b032d4a818b1e9816022dcc", func := "loop.example/g00843/laws.FnExactIsInterface", spec := "fnExactIsInterface", unfollowed := true, recurses := true, apart := false }
def FnExactIsInterfaceSaid : Prop := fnExactIsInterfaceRow.holds Try.pinned (OpenSpec.ofChange fnExactIsInterfaceSpec)

/-- ITS FALSE NEIGHBOUR: 'it returns false'. Refute it at one input. -/
def fnExactIsInterfaceWrong : ChangeSpec := { name := "fnExactIsInterface", fn := fun _ => fun
  | [d] => { results := [.lit (.bool false)], args := [d] }
  | _ => none }
def FnExactIsInterfaceWrongFalsely : Prop := fnExactIsInterfaceRow.holds Try.pinned (OpenSpec.ofChange fnExactIsInterfaceWrong)

/-- 'laws.FnExactDepthOf': WHATEVER THE INPUT: true; the input reads as it did. -/
def fnExactDepthOfSpec : ChangeSpec := { name := "fnExactDepthOf", fn := fun _ => fun
  | [d] => { results := [.lit (.bool true)], args := [d] }
  | _ => none }
def fnExactDepthOfRow : OpenClaim := { program := "ytaobdfgepgalhaa", sum := "3224e8ab44ed85f42a8443005023044f20b70d3c3b032d4a818b1e9816022dcc", func := "loop.example/g00843/laws.FnExactDepthOf", spec := "fnExactDepthOf", unfollowed := true, recurses := true, apart := false }
def FnExactDepthOfSaid : Prop := fnExactDepthOfRow.holds Try.pinned (OpenSpec.ofChange fnExactDepthOfSpec)

/-- ITS FALSE NEIGHBOUR: 'it returns false'. Refute it at one input. -/
def fnExactDepthOfWrong : ChangeSpec := { name := "fnExactDepthOf", fn := fun _ => fun
  | [d] => { results := [.lit (.bool false)], args := [d] }
  | _ => none }
def FnExactDepthOfWrongFalsely : Prop := fnExactDepthOfRow.holds Try.pinned (OpenSpec.ofChange fnExactDepthOfWrong)

/-- 'laws.FnExactRunningPriority': WHATEVER THE INPUT: true; the input reads as it did. -/
def fnExactRunningPrioritySpec : ChangeSpec := { name := "fnExactRunningPriority", fn := fun _ => fun
  | [d] => { results := [.lit (.bool true)], args := [d] }
  | _ => none }
def fnExactRunningPriorityRow : OpenClaim := { program := "ytaobdfgepgalhaa", sum := "3224e8ab44ed85f42a8443005023044f20b70d3c3b032d4a818b1e9816022dcc", func := "loop.example/g00843/laws.FnExactRunningPriority", spec := "fnExactRunningPriority", unfollowed := true, recurses := true, apart := false }
def FnExactRunningPrioritySaid : Prop := fnExactRunningPriorityRow.holds Try.pinned (OpenSpec.ofChange fnExactRunningPrioritySpec)

/-- ITS FALSE NEIGHBOUR: 'it returns false'. Refute it at one input. -/
def fnExactRunningPriorityWrong : ChangeSpec := { name := "fnExactRunningPriority", fn := fun _ => fun
  | [d] => { results := [.lit (.bool false)], args := [d] }
  | _ => none }
def FnExactRunningPriorityWrongFalsely : Prop := fnExactRunningPriorityRow.holds Try.pinned (OpenSpec.ofChange fnExactRunningPriorityWrong)

/-- 'laws.FnExactCanTake': WHATEVER THE INPUT: true; the input reads as it did. -/
def fnExactCanTakeSpec : ChangeSpec := { name := "fnExactCanTake", fn := fun _ => fun
  | [d] => { results := [.lit (.bool true)], args := [d] }
  | _ => none }
def fnExactCanTakeRow : OpenClaim := { program := "ytaobdfgepgalhaa", sum := "3224e8ab44ed85f42a8443005023044f20b70d3c3b032d4a818b1e9816022dcc", func := "loop.example/g00843/laws.FnExactCanTake", spec := "fnExactCanTake", unfollowed := true, recurses := true, apart := false }
def FnExactCanTakeSaid : Prop := fnExactCanTakeRow.holds Try.pinned (OpenSpec.ofChange fnExactCanTakeSpec)

/-- ITS FALSE NEIGHBOUR: 'it returns false'. Refute it at one input. -/
def fnExactCanTakeWrong : ChangeSpec := { name := "fnExactCanTake", fn := fun _ => fun
  | [d] => { results := [.lit (.bool false)], args := [d] }
  | _ => none }
def FnExactCanTakeWrongFalsely : Prop := fnExactCanTakeRow.holds Try.pinned (OpenSpec.ofChange fnExactCanTakeWrong)

/- THE SECOND FORM. 'bulk': how many values and letters a reading holds, each counted each time it is reached (what is shared counts as often as it is met; a slice's spare places count too). A statement '..UptoSaid' is the law's where the arguments, and the package variables that the reading takes, are together of bulk at most 1048576: NARROWER than '..Said'. Prove '..Said' where nothing that the law and all that it calls make is longer than what came in: it says more and counts as full. Else prove '..UptoSaid'. A law counts once. -/
mutual
def uptoBulk {H : Type} : DataW H → Nat
  | .lit (.string bytes) => bytes.length + 1
  | .lit _ => 1
  | .nil => 1
  | .ptr d => uptoBulk d + 1
  | .slice elems spare => uptoBulkAll elems + uptoBulkAll spare + 1
  | .agg parts => uptoBulkAll parts + 1
  | .iface _ d => uptoBulk d + 1
  | .map entries => uptoBulkEntries entries + 1
  | .held _ => 1
def uptoBulkAll {H : Type} : List (DataW H) → Nat
  | [] => 0
  | d :: r => uptoBulk d + uptoBulkAll r
def uptoBulkEntries {H : Type} : List (Lit × DataW H) → Nat
  | [] => 0
  | x :: r => uptoBulkEntry x + uptoBulkEntries r
def uptoBulkEntry {H : Type} : Lit × DataW H → Nat
  | (.string bytes, d) => bytes.length + uptoBulk d + 1
  | (_, d) => uptoBulk d + 1
 end
def uptoSmall : (H : Type) → List (DataW H) → Bool := fun _ ds => decide (uptoBulkAll ds ≤ 1048576)
def OpenSpec.upto (s : _root_.Go.ChangeSpec) : _root_.Go.OpenSpec := { _root_.Go.OpenSpec.ofChange s with cond := some uptoSmall }

/-- 'laws.FnExactIsInterface', WHERE WHAT IT READS IS OF BULK AT MOST 1048576: true; the input reads as it did. -/
def fnExactIsInterfaceUptoRow : OpenClaim := { program := "ytaobdfgepgalhaa", sum := "3224e8ab44ed85f42a8443005023044f20b70d3c3b032d4a818b1e9816022dcc", func := "loop.example/g00843/laws.FnExactIsInterface", spec := "fnExactIsInterface", unfollowed := true, recurses := true, apart := false, narrowed := true }
def FnExactIsInterfaceUptoSaid : Prop := fnExactIsInterfaceUptoRow.holds Try.pinned (OpenSpec.upto fnExactIsInterfaceSpec)

/-- 'laws.FnExactDepthOf', WHERE WHAT IT READS IS OF BULK AT MOST 1048576: true; the input reads as it did. -/
def fnExactDepthOfUptoRow : OpenClaim := { program := "ytaobdfgepgalhaa", sum := "3224e8ab44ed85f42a8443005023044f20b70d3c3b032d4a818b1e9816022dcc", func := "loop.example/g00843/laws.FnExactDepthOf", spec := "fnExactDepthOf", unfollowed := true, recurses := true, apart := false, narrowed := true }
def FnExactDepthOfUptoSaid : Prop := fnExactDepthOfUptoRow.holds Try.pinned (OpenSpec.upto fnExactDepthOfSpec)

/-- 'laws.FnExactRunningPriority', WHERE WHAT IT READS IS OF BULK AT MOST 1048576: true; the input reads as it did. -/
def fnExactRunningPriorityUptoRow : OpenClaim := { program := "ytaobdfgepgalhaa", sum := "3224e8ab44ed85f42a8443005023044f20b70d3c3b032d4a818b1e9816022dcc", func := "loop.example/g00843/laws.FnExactRunningPriority", spec := "fnExactRunningPriority", unfollowed := true, recurses := true, apart := false, narrowed := true }
def FnExactRunningPriorityUptoSaid : Prop := fnExactRunningPriorityUptoRow.holds Try.pinned (OpenSpec.upto fnExactRunningPrioritySpec)

/-- 'laws.FnExactCanTake', WHERE WHAT IT READS IS OF BULK AT MOST 1048576: true; the input reads as it did. -/
def fnExactCanTakeUptoRow : OpenClaim := { program := "ytaobdfgepgalhaa", sum := "3224e8ab44ed85f42a8443005023044f20b70d3c3b032d4a818b1e9816022dcc", func := "loop.example/g00843/laws.FnExactCanTake", spec := "fnExactCanTake", unfollowed := true, recurses := true, apart := false, narrowed := true }
def FnExactCanTakeUptoSaid : Prop := fnExactCanTakeUptoRow.holds Try.pinned (OpenSpec.upto fnExactCanTakeSpec)

end Rows
end Go.Proofs.Ytaobdfgepgalhaa
