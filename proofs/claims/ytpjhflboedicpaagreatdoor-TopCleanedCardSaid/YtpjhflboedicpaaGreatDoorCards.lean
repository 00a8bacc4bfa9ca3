/-
  DERIVED. GIVEN WITH THE SEED: THE CARDS: each row of YtpjhflboedicpaaGreatDoorRows.lean that lists a variable, with what it lists TIED to the program's text (the seventh form; the later family's looks); each row that meets fmt, with fmt's text TOLD by the authors' own Lean function (tested against real Go, not proved from fmt's source: count such statements apart). THE CARD IS WHAT COUNTS. Prove the row's statement (the work); the ties are given (YtpjhflboedicpaaGreatDoorTie.lean); close each card by the builder's one call (the guide's Derived/Test/ToyasCard.lean, 'card_holds'). Laid BY PROGRAM, IN A SANDBOX (cutbox-door.mjs). By AI agents, Wed Nov 11 2026. No macro, syntax, notation, axiom, sorry.
-/
import Derived.Test.YtpjhflboedicpaaGreatDoorRows
import GoSem.ClaimSeven
namespace Go.Proofs.YtpjhflboedicpaaGreatDoor
namespace Rows

/-- THE TIED CARD OF 'headgatetop.TopCleaned'. -/
def topCleanedCard : Claim7 := { stood := { row := topCleanedRow, standIns := [], harness := (true, "e68afb300fc3aa96b4f33eddea88396c849b58b4a8d23cbd90f48552f906c700"), looks := false }, kinds := [], alts := [], laidByText := true, laidKinds := [.data, .pinned], laidTests := true, laidLooks := .later }
def TopCleanedCardSaid : Prop := Claim7.holds Tryz.pinned (.plain (OpenSpec.ofChange topCleanedSpec)) topCleanedCard

/-- THE SECOND FORM's CARD OF 'headgatetop.TopCleaned'. -/
def topCleanedUptoCard : Claim7 := { stood := { row := topCleanedUptoRow, standIns := [], harness := (true, "e68afb300fc3aa96b4f33eddea88396c849b58b4a8d23cbd90f48552f906c700"), looks := false }, kinds := [], alts := [], laidByText := true, laidKinds := [.data, .pinned], laidTests := true, laidLooks := .later }
def TopCleanedUptoCardSaid : Prop := Claim7.holds Tryz.pinned (.plain (OpenSpec.upto topCleanedSpec)) topCleanedUptoCard
end Rows
end Go.Proofs.YtpjhflboedicpaaGreatDoor
