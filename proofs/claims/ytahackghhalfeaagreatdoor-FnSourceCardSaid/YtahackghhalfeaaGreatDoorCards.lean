/-
  DERIVED. GIVEN WITH THE SEED: THE CARDS: each row of YtahackghhalfeaaGreatDoorRows.lean that lists a variable, with what it lists TIED to the program's text (the seventh form; the later family's looks); each row that meets fmt, with fmt's text TOLD by the authors' own Lean function (tested against real Go, not proved from fmt's source: count such statements apart). THE CARD IS WHAT COUNTS. Prove the row's statement (the work); the ties are given (YtahackghhalfeaaGreatDoorTie.lean); close each card by the builder's one call (the guide's Derived/Test/ToyasCard.lean, 'card_holds'). Laid BY PROGRAM, IN A SANDBOX (cutbox-door.mjs). By AI agents, Wed Nov 11 2026. No macro, syntax, notation, axiom, sorry.
-/
import Derived.Test.YtahackghhalfeaaGreatDoorRows
import GoSem.ClaimSeven
namespace Go.Proofs.YtahackghhalfeaaGreatDoor
namespace Rows

/-- THE TIED CARD OF 'laws.FnSource'. -/
def fnSourceCard : Claim7 := { stood := { row := fnSourceRow, standIns := [], harness := (true, "c140e40941d84b75bea6554806b53e3804a0928b914783b412a9193f5b79e3e5"), looks := true }, kinds := [], alts := [], laidByText := true, laidKinds := [.data, .data, .data, .data, .sentinel, .sentinel, .pinned], laidTests := true, laidLooks := .later }
def FnSourceCardSaid : Prop := Claim7.holds Tryz.pinned (.plain (OpenSpec.ofChange fnSourceSpec)) fnSourceCard

/-- THE SECOND FORM's CARD OF 'laws.FnSource'. -/
def fnSourceUptoCard : Claim7 := { stood := { row := fnSourceUptoRow, standIns := [], harness := (true, "c140e40941d84b75bea6554806b53e3804a0928b914783b412a9193f5b79e3e5"), looks := true }, kinds := [], alts := [], laidByText := true, laidKinds := [.data, .data, .data, .data, .sentinel, .sentinel, .pinned], laidTests := true, laidLooks := .later }
def FnSourceUptoCardSaid : Prop := Claim7.holds Tryz.pinned (.plain (OpenSpec.upto fnSourceSpec)) fnSourceUptoCard
end Rows
end Go.Proofs.YtahackghhalfeaaGreatDoor
