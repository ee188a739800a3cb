/-
  DERIVED. GIVEN WITH THE SEED: THE CARDS: each row of YtahackghhalfeaaDoorRows.lean that lists a variable, with what it lists TIED to the program's text (the seventh form; the later family's looks); each row that meets fmt, with fmt's text TOLD by the authors' own Lean function (tested against real Go, not proved from fmt's source: count such statements apart). THE CARD IS WHAT COUNTS. Prove the row's statement (the work); the ties are given (YtahackghhalfeaaDoorTie.lean); close each card by the builder's one call (the guide's Derived/Test/ToyasCard.lean, 'card_holds'). Laid BY PROGRAM, IN A SANDBOX (cutbox-door.mjs). By AI agents, Wed Nov 11 2026. No macro, syntax, notation, axiom, sorry.
-/
import Derived.Test.YtahackghhalfeaaDoorRows
import GoSem.ClaimSeven
namespace Go.Proofs.YtahackghhalfeaaDoor
namespace Rows

/-- THE TIED CARD OF 'laws.FnExactSourcePrint'. -/
def fnExactSourcePrintCard : Claim7 := { stood := { row := fnExactSourcePrintRow, standIns := [], harness := (true, "19476a27978d0f441b8d5e58b89efe093cbb04c61a36594beed05a863072bfb4"), looks := false }, kinds := [], alts := [], laidByText := true, laidKinds := [.data, .data, .data], laidTests := true, laidLooks := .later }
def FnExactSourcePrintCardSaid : Prop := Claim7.holds Tryd.pinned (.plain (OpenSpec.ofChange fnExactSourcePrintSpec)) fnExactSourcePrintCard

/-- THE SECOND FORM's CARD OF 'laws.FnExactSourcePrint'. -/
def fnExactSourcePrintUptoCard : Claim7 := { stood := { row := fnExactSourcePrintUptoRow, standIns := [], harness := (true, "19476a27978d0f441b8d5e58b89efe093cbb04c61a36594beed05a863072bfb4"), looks := false }, kinds := [], alts := [], laidByText := true, laidKinds := [.data, .data, .data], laidTests := true, laidLooks := .later }
def FnExactSourcePrintUptoCardSaid : Prop := Claim7.holds Tryd.pinned (.plain (OpenSpec.upto fnExactSourcePrintSpec)) fnExactSourcePrintUptoCard
end Rows
end Go.Proofs.YtahackghhalfeaaDoor
