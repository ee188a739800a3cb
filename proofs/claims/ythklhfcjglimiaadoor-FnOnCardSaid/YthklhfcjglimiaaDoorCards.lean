/-
  DERIVED. GIVEN WITH THE SEED: THE CARDS: each row of YthklhfcjglimiaaDoorRows.lean that lists a variable, with what it lists TIED to the program's text (the seventh form; the later family's looks); each row that meets fmt, with fmt's text TOLD by the authors' own Lean function (tested against real Go, not proved from fmt's source: count such statements apart). THE CARD IS WHAT COUNTS. Prove the row's statement (the work); the ties are given (YthklhfcjglimiaaDoorTie.lean); close each card by the builder's one call (the guide's Derived/Test/ToyasCard.lean, 'card_holds'). Laid BY PROGRAM, IN A SANDBOX (cutbox-door.mjs). By AI agents, Wed Nov 11 2026. No macro, syntax, notation, axiom, sorry.
-/
import Derived.Test.YthklhfcjglimiaaDoorRows
import GoSem.ClaimSeven
namespace Go.Proofs.YthklhfcjglimiaaDoor
namespace Rows

/-- THE TIED CARD OF 'laws.FnExactOnRead'. -/
def fnExactOnReadCard : Claim7 := { stood := { row := fnExactOnReadRow, standIns := [], harness := (true, "426be127869a65457e39019dfdb708d66b09620bef86af1055414f31ba4dfc49"), looks := true }, kinds := [], alts := [], laidByText := true, laidKinds := [.data, .data, .data, .sentinel, .sentinel], laidTests := true, laidLooks := .later }
def FnExactOnReadCardSaid : Prop := Claim7.holds Tryd.pinned (.plain (OpenSpec.ofChange fnExactOnReadSpec)) fnExactOnReadCard

/-- THE TIED CARD OF 'laws.FnOn'. -/
def fnOnCard : Claim7 := { stood := { row := fnOnRow, standIns := [], harness := (true, "426be127869a65457e39019dfdb708d66b09620bef86af1055414f31ba4dfc49"), looks := true }, kinds := [], alts := [], laidByText := true, laidKinds := [.data, .data, .data, .sentinel, .sentinel], laidTests := true, laidLooks := .later }
def FnOnCardSaid : Prop := Claim7.holds Tryd.pinned (.plain (OpenSpec.ofChange fnOnSpec)) fnOnCard

/-- THE SECOND FORM's CARD OF 'laws.FnExactOnRead'. -/
def fnExactOnReadUptoCard : Claim7 := { stood := { row := fnExactOnReadUptoRow, standIns := [], harness := (true, "426be127869a65457e39019dfdb708d66b09620bef86af1055414f31ba4dfc49"), looks := true }, kinds := [], alts := [], laidByText := true, laidKinds := [.data, .data, .data, .sentinel, .sentinel], laidTests := true, laidLooks := .later }
def FnExactOnReadUptoCardSaid : Prop := Claim7.holds Tryd.pinned (.plain (OpenSpec.upto fnExactOnReadSpec)) fnExactOnReadUptoCard

/-- THE SECOND FORM's CARD OF 'laws.FnOn'. -/
def fnOnUptoCard : Claim7 := { stood := { row := fnOnUptoRow, standIns := [], harness := (true, "426be127869a65457e39019dfdb708d66b09620bef86af1055414f31ba4dfc49"), looks := true }, kinds := [], alts := [], laidByText := true, laidKinds := [.data, .data, .data, .sentinel, .sentinel], laidTests := true, laidLooks := .later }
def FnOnUptoCardSaid : Prop := Claim7.holds Tryd.pinned (.plain (OpenSpec.upto fnOnSpec)) fnOnUptoCard
end Rows
end Go.Proofs.YthklhfcjglimiaaDoor
