/-
  DERIVED. GIVEN WITH THE SEED: THE CARDS: each row of YtaggjadgbmmjoaaDoorRows.lean that lists a variable, with what it lists TIED to the program's text (the seventh form; the later family's looks); each row that meets fmt, with fmt's text TOLD by the authors' own Lean function (tested against real Go, not proved from fmt's source: count such statements apart). THE CARD IS WHAT COUNTS. Prove the row's statement (the work); the ties are given (YtaggjadgbmmjoaaDoorTie.lean); close each card by the builder's one call (the guide's Derived/Test/ToyasCard.lean, 'card_holds'). Laid BY PROGRAM, IN A SANDBOX (cutbox-door.mjs). By AI agents, Wed Nov 11 2026. No macro, syntax, notation, axiom, sorry.
-/
import Derived.Test.YtaggjadgbmmjoaaDoorRows
import GoSem.ClaimSeven
namespace Go.Proofs.YtaggjadgbmmjoaaDoor
namespace Rows

/-- THE TIED CARD OF 'laws.FnExactSlotsText'. -/
def fnExactSlotsTextCard : Claim7 := { stood := { row := fnExactSlotsTextRow, standIns := [], harness := (true, "aa20f5ad478ee3901bb7a001450707a45ee644bf8813c0384cce49bcce618f70"), looks := true }, kinds := [], alts := [], laidByText := true, laidKinds := [.data, .data, .data], laidTests := true, laidLooks := .later }
def FnExactSlotsTextCardSaid : Prop := Claim7.holds Tryd.pinned (.plain (OpenSpec.ofChange fnExactSlotsTextSpec)) fnExactSlotsTextCard

/-- THE TIED CARD OF 'laws.FnExactParseSlots'. -/
def fnExactParseSlotsCard : Claim7 := { stood := { row := fnExactParseSlotsRow, standIns := [], harness := (true, "aa20f5ad478ee3901bb7a001450707a45ee644bf8813c0384cce49bcce618f70"), looks := true }, kinds := [], alts := [], laidByText := true, laidKinds := [.data, .data, .data, .data, .sentinel, .sentinel, .pinned], laidTests := true, laidLooks := .later }
def FnExactParseSlotsCardSaid : Prop := Claim7.holds Tryd.pinned (.plain (OpenSpec.ofChange fnExactParseSlotsSpec)) fnExactParseSlotsCard

/-- THE SECOND FORM's CARD OF 'laws.FnExactSlotsText'. -/
def fnExactSlotsTextUptoCard : Claim7 := { stood := { row := fnExactSlotsTextUptoRow, standIns := [], harness := (true, "aa20f5ad478ee3901bb7a001450707a45ee644bf8813c0384cce49bcce618f70"), looks := true }, kinds := [], alts := [], laidByText := true, laidKinds := [.data, .data, .data], laidTests := true, laidLooks := .later }
def FnExactSlotsTextUptoCardSaid : Prop := Claim7.holds Tryd.pinned (.plain (OpenSpec.upto fnExactSlotsTextSpec)) fnExactSlotsTextUptoCard

/-- THE SECOND FORM's CARD OF 'laws.FnExactParseSlots'. -/
def fnExactParseSlotsUptoCard : Claim7 := { stood := { row := fnExactParseSlotsUptoRow, standIns := [], harness := (true, "aa20f5ad478ee3901bb7a001450707a45ee644bf8813c0384cce49bcce618f70"), looks := true }, kinds := [], alts := [], laidByText := true, laidKinds := [.data, .data, .data, .data, .sentinel, .sentinel, .pinned], laidTests := true, laidLooks := .later }
def FnExactParseSlotsUptoCardSaid : Prop := Claim7.holds Tryd.pinned (.plain (OpenSpec.upto fnExactParseSlotsSpec)) fnExactParseSlotsUptoCard
end Rows
end Go.Proofs.YtaggjadgbmmjoaaDoor
