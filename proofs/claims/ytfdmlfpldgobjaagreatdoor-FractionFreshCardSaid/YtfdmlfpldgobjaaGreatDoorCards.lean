/-
  DERIVED. GIVEN WITH THE SEED: THE CARDS: each row of YtfdmlfpldgobjaaGreatDoorRows.lean that lists a variable, with what it lists TIED to the program's text (the seventh form; the later family's looks); each row that meets fmt, with fmt's text TOLD by the authors' own Lean function (tested against real Go, not proved from fmt's source: count such statements apart). THE CARD IS WHAT COUNTS. Prove the row's statement (the work); the ties are given (YtfdmlfpldgobjaaGreatDoorTie.lean); close each card by the builder's one call (the guide's Derived/Test/ToyasCard.lean, 'card_holds'). Laid BY PROGRAM, IN A SANDBOX (cutbox-door.mjs). By AI agents, Wed Nov 11 2026. No macro, syntax, notation, axiom, sorry.
-/
import Derived.Test.YtfdmlfpldgobjaaGreatDoorRows
import GoSem.ClaimSeven
namespace Go.Proofs.YtfdmlfpldgobjaaGreatDoor
namespace Rows

/-- THE TIED CARD OF 'barscanlaw03.FractionFresh'. -/
def fractionFreshCard : Claim7 := { stood := { row := fractionFreshRow, standIns := [], harness := (true, "4d82e36e541f23b40084cc7e15c042ee0da55ac675dde85c79d68c9bf05bd924"), looks := false }, kinds := [], alts := [], laidByText := true, laidKinds := [.data, .data, .data], laidTests := true, laidLooks := .later }
def FractionFreshCardSaid : Prop := Claim7.holds Tryz.pinned (.plain (OpenSpec.ofChange fractionFreshSpec)) fractionFreshCard

/-- THE SECOND FORM's CARD OF 'barscanlaw03.FractionFresh'. -/
def fractionFreshUptoCard : Claim7 := { stood := { row := fractionFreshUptoRow, standIns := [], harness := (true, "4d82e36e541f23b40084cc7e15c042ee0da55ac675dde85c79d68c9bf05bd924"), looks := false }, kinds := [], alts := [], laidByText := true, laidKinds := [.data, .data, .data], laidTests := true, laidLooks := .later }
def FractionFreshUptoCardSaid : Prop := Claim7.holds Tryz.pinned (.plain (OpenSpec.upto fractionFreshSpec)) fractionFreshUptoCard
end Rows
end Go.Proofs.YtfdmlfpldgobjaaGreatDoor
