/-
  DERIVED. GIVEN WITH THE SEED: THE CARDS: each row of YtaggjadgbmmjoaaGreatDoorRows.lean that lists a variable, with what it lists TIED to the program's text (the seventh form; the later family's looks); each row that meets fmt, with fmt's text TOLD by the authors' own Lean function (tested against real Go, not proved from fmt's source: count such statements apart). THE CARD IS WHAT COUNTS. Prove the row's statement (the work); the ties are given (YtaggjadgbmmjoaaGreatDoorTie.lean); close each card by the builder's one call (the guide's Derived/Test/ToyasCard.lean, 'card_holds'). Laid BY PROGRAM, IN A SANDBOX (cutbox-door.mjs). By AI agents, Wed Nov 11 2026. No macro, syntax, notation, axiom, sorry.
-/
import Derived.Test.YtaggjadgbmmjoaaGreatDoorRows
import GoSem.ClaimSeven
namespace Go.Proofs.YtaggjadgbmmjoaaGreatDoor
namespace Rows

/-- THE TIED CARD OF 'laws.FnSlots'. -/
def fnSlotsCard : Claim7 := { stood := { row := fnSlotsRow, standIns := [], harness := (true, "03a4c42da60f10a96979dbb24927657c29fb3d1923a26a0f65eace2ac0f267ed"), looks := true }, kinds := [], alts := [], laidByText := true, laidKinds := [.data, .data, .data, .data, .sentinel, .sentinel, .pinned], laidTests := true, laidLooks := .later }
def FnSlotsCardSaid : Prop := Claim7.holds Tryz.pinned (.plain (OpenSpec.ofChange fnSlotsSpec)) fnSlotsCard

/-- THE SECOND FORM's CARD OF 'laws.FnSlots'. -/
def fnSlotsUptoCard : Claim7 := { stood := { row := fnSlotsUptoRow, standIns := [], harness := (true, "03a4c42da60f10a96979dbb24927657c29fb3d1923a26a0f65eace2ac0f267ed"), looks := true }, kinds := [], alts := [], laidByText := true, laidKinds := [.data, .data, .data, .data, .sentinel, .sentinel, .pinned], laidTests := true, laidLooks := .later }
def FnSlotsUptoCardSaid : Prop := Claim7.holds Tryz.pinned (.plain (OpenSpec.upto fnSlotsSpec)) fnSlotsUptoCard
end Rows
end Go.Proofs.YtaggjadgbmmjoaaGreatDoor
