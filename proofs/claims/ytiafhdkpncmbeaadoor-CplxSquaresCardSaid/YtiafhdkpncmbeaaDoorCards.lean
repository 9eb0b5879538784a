/-
  DERIVED. GIVEN WITH THE SEED: THE CARDS: each row of YtiafhdkpncmbeaaDoorRows.lean that lists a variable, with what it lists TIED to the program's text (the seventh form; the later family's looks); each row that meets fmt, with fmt's text TOLD by the authors' own Lean function (tested against real Go, not proved from fmt's source: count such statements apart). THE CARD IS WHAT COUNTS. Prove the row's statement (the work); the ties are given (YtiafhdkpncmbeaaDoorTie.lean); close each card by the builder's one call (the guide's Derived/Test/ToyasCard.lean, 'card_holds'). Laid BY PROGRAM, IN A SANDBOX (cutbox-door.mjs). By AI agents, Wed Nov 11 2026. No macro, syntax, notation, axiom, sorry.
-/
import Derived.Test.YtiafhdkpncmbeaaDoorRows
import GoSem.ClaimSeven
namespace Go.Proofs.YtiafhdkpncmbeaaDoor
namespace Rows

/-- THE TIED CARD OF 'tracerylaw05.CplxSquares'. -/
def cplxSquaresCard : Claim7 := { stood := { row := cplxSquaresRow, standIns := [], harness := (true, "96d4e1d92ac67184720153338b7dfef03eb2eb873981800f103d2c6e7ce9926b"), looks := true }, kinds := [], alts := [], laidByText := true, laidKinds := [.data, .data, .data, .sentinel, .sentinel], laidTests := true, laidLooks := .later }
def CplxSquaresCardSaid : Prop := Claim7.holds Tryd.pinned (.plain (OpenSpec.ofChange cplxSquaresSpec)) cplxSquaresCard

/-- THE SECOND FORM's CARD OF 'tracerylaw05.CplxSquares'. -/
def cplxSquaresUptoCard : Claim7 := { stood := { row := cplxSquaresUptoRow, standIns := [], harness := (true, "96d4e1d92ac67184720153338b7dfef03eb2eb873981800f103d2c6e7ce9926b"), looks := true }, kinds := [], alts := [], laidByText := true, laidKinds := [.data, .data, .data, .sentinel, .sentinel], laidTests := true, laidLooks := .later }
def CplxSquaresUptoCardSaid : Prop := Claim7.holds Tryd.pinned (.plain (OpenSpec.upto cplxSquaresSpec)) cplxSquaresUptoCard
end Rows
end Go.Proofs.YtiafhdkpncmbeaaDoor
