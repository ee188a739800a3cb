/-
  DERIVED. GIVEN WITH THE SEED: THE CARDS: each row of YtkjggdbephdjaaaDoorRows.lean that lists a variable, with what it lists TIED to the program's text (the seventh form; the later family's looks); each row that meets fmt, with fmt's text TOLD by the authors' own Lean function (tested against real Go, not proved from fmt's source: count such statements apart). THE CARD IS WHAT COUNTS. Prove the row's statement (the work); the ties are given (YtkjggdbephdjaaaDoorTie.lean); close each card by the builder's one call (the guide's Derived/Test/ToyasCard.lean, 'card_holds'). Laid BY PROGRAM, IN A SANDBOX (cutbox-door.mjs). By AI agents, Wed Nov 11 2026. No macro, syntax, notation, axiom, sorry.
-/
import Derived.Test.YtkjggdbephdjaaaDoorRows
import GoSem.ClaimSeven
namespace Go.Proofs.YtkjggdbephdjaaaDoor
namespace Rows

/-- THE TIED CARD OF 'laws.FnExactOnText'. -/
def fnExactOnTextCard : Claim7 := { stood := { row := fnExactOnTextRow, standIns := [], harness := (true, "8f1382149aaae75ae18af65ecac033f2a5cfea3602f5f107402aafcc80ee9332"), looks := false }, kinds := [], alts := [], laidByText := true, laidKinds := [.data, .data, .data], laidTests := true, laidLooks := .later }
def FnExactOnTextCardSaid : Prop := Claim7.holds Tryd.pinned (.plain (OpenSpec.ofChange fnExactOnTextSpec)) fnExactOnTextCard

/-- THE SECOND FORM's CARD OF 'laws.FnExactOnText'. -/
def fnExactOnTextUptoCard : Claim7 := { stood := { row := fnExactOnTextUptoRow, standIns := [], harness := (true, "8f1382149aaae75ae18af65ecac033f2a5cfea3602f5f107402aafcc80ee9332"), looks := false }, kinds := [], alts := [], laidByText := true, laidKinds := [.data, .data, .data], laidTests := true, laidLooks := .later }
def FnExactOnTextUptoCardSaid : Prop := Claim7.holds Tryd.pinned (.plain (OpenSpec.upto fnExactOnTextSpec)) fnExactOnTextUptoCard
end Rows
end Go.Proofs.YtkjggdbephdjaaaDoor
