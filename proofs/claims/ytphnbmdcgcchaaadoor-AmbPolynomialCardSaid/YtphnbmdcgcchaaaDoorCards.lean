/-
  DERIVED. GIVEN WITH THE SEED: THE CARDS: each row of YtphnbmdcgcchaaaDoorRows.lean that lists a variable, with what it lists TIED to the program's text (the seventh form; the later family's looks); each row that meets fmt, with fmt's text TOLD by the authors' own Lean function (tested against real Go, not proved from fmt's source: count such statements apart). THE CARD IS WHAT COUNTS. Prove the row's statement (the work); the ties are given (YtphnbmdcgcchaaaDoorTie.lean); close each card by the builder's one call (the guide's Derived/Test/ToyasCard.lean, 'card_holds'). Laid BY PROGRAM, IN A SANDBOX (cutbox-door.mjs). By AI agents, Wed Nov 11 2026. No macro, syntax, notation, axiom, sorry.
-/
import Derived.Test.YtphnbmdcgcchaaaDoorRows
import GoSem.ClaimSeven
namespace Go.Proofs.YtphnbmdcgcchaaaDoor
namespace Rows

/-- THE TIED CARD OF 'rexmilllaw18.AmbExponential'. -/
def ambExponentialCard : Claim7 := { stood := { row := ambExponentialRow, standIns := [], harness := (true, "2e3ab651f5df481f97ab99f5c2e12a937fe8522a2f477093da6a11e24fb4036a"), looks := false }, kinds := [], alts := [], laidByText := true, laidKinds := [.data], laidTests := true, laidLooks := .later }
def AmbExponentialCardSaid : Prop := Claim7.holds Tryd.pinned (.plain (OpenSpec.ofChange ambExponentialSpec)) ambExponentialCard

/-- THE TIED CARD OF 'rexmilllaw18.AmbPolynomial'. -/
def ambPolynomialCard : Claim7 := { stood := { row := ambPolynomialRow, standIns := [], harness := (true, "2e3ab651f5df481f97ab99f5c2e12a937fe8522a2f477093da6a11e24fb4036a"), looks := false }, kinds := [], alts := [], laidByText := true, laidKinds := [.data], laidTests := true, laidLooks := .later }
def AmbPolynomialCardSaid : Prop := Claim7.holds Tryd.pinned (.plain (OpenSpec.ofChange ambPolynomialSpec)) ambPolynomialCard

/-- THE SECOND FORM's CARD OF 'rexmilllaw18.AmbExponential'. -/
def ambExponentialUptoCard : Claim7 := { stood := { row := ambExponentialUptoRow, standIns := [], harness := (true, "2e3ab651f5df481f97ab99f5c2e12a937fe8522a2f477093da6a11e24fb4036a"), looks := false }, kinds := [], alts := [], laidByText := true, laidKinds := [.data], laidTests := true, laidLooks := .later }
def AmbExponentialUptoCardSaid : Prop := Claim7.holds Tryd.pinned (.plain (OpenSpec.upto ambExponentialSpec)) ambExponentialUptoCard

/-- THE SECOND FORM's CARD OF 'rexmilllaw18.AmbPolynomial'. -/
def ambPolynomialUptoCard : Claim7 := { stood := { row := ambPolynomialUptoRow, standIns := [], harness := (true, "2e3ab651f5df481f97ab99f5c2e12a937fe8522a2f477093da6a11e24fb4036a"), looks := false }, kinds := [], alts := [], laidByText := true, laidKinds := [.data], laidTests := true, laidLooks := .later }
def AmbPolynomialUptoCardSaid : Prop := Claim7.holds Tryd.pinned (.plain (OpenSpec.upto ambPolynomialSpec)) ambPolynomialUptoCard
end Rows
end Go.Proofs.YtphnbmdcgcchaaaDoor
