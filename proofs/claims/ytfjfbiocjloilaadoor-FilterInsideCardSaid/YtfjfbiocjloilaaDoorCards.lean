/-
  DERIVED. GIVEN WITH THE SEED: THE CARDS: each row of YtfjfbiocjloilaaDoorRows.lean that lists a variable, with what it lists TIED to the program's text (the seventh form; the later family's looks); each row that meets fmt, with fmt's text TOLD by the authors' own Lean function (tested against real Go, not proved from fmt's source: count such statements apart). THE CARD IS WHAT COUNTS. Prove the row's statement (the work); the ties are given (YtfjfbiocjloilaaDoorTie.lean); close each card by the builder's one call (the guide's Derived/Test/ToyasCard.lean, 'card_holds'). Laid BY PROGRAM, IN A SANDBOX (cutbox-door.mjs). By AI agents, Wed Nov 11 2026. No macro, syntax, notation, axiom, sorry.
-/
import Derived.Test.YtfjfbiocjloilaaDoorRows
import GoSem.ClaimSeven
namespace Go.Proofs.YtfjfbiocjloilaaDoor
namespace Rows

/-- THE TIED CARD OF 'millracelaw.FilterInside'. -/
def filterInsideCard : Claim7 := { stood := { row := filterInsideRow, standIns := [], harness := (true, "39f546961af7e74a560092cd67dad1e25c6e31085bf105b9c84f187443479140"), looks := true }, kinds := [], alts := [], laidByText := true, laidKinds := [.data, .data, .data, .sentinel, .sentinel, .data, .data, .data], laidTests := true, laidLooks := .later }
def FilterInsideCardSaid : Prop := Claim7.holds Tryd.pinned (.plain (OpenSpec.ofChange filterInsideSpec)) filterInsideCard

/-- THE SECOND FORM's CARD OF 'millracelaw.FilterInside'. -/
def filterInsideUptoCard : Claim7 := { stood := { row := filterInsideUptoRow, standIns := [], harness := (true, "39f546961af7e74a560092cd67dad1e25c6e31085bf105b9c84f187443479140"), looks := true }, kinds := [], alts := [], laidByText := true, laidKinds := [.data, .data, .data, .sentinel, .sentinel, .data, .data, .data], laidTests := true, laidLooks := .later }
def FilterInsideUptoCardSaid : Prop := Claim7.holds Tryd.pinned (.plain (OpenSpec.upto filterInsideSpec)) filterInsideUptoCard
end Rows
end Go.Proofs.YtfjfbiocjloilaaDoor
