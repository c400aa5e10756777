/-
  DERIVED. GIVEN WITH THE SEED: THE CARDS: each row of YtkfpcohdbbhmaaaDoorRows.lean that lists a variable, with what it lists TIED to the program's text (the seventh form; the later family's looks); each row that meets fmt, with fmt's text TOLD by the authors' own Lean function (tested against real Go, not proved from fmt's source: count such statements apart). THE CARD IS WHAT COUNTS. Prove the row's statement (the work); the ties are given (YtkfpcohdbbhmaaaDoorTie.lean); close each card by the builder's one call (the guide's Derived/Test/ToyasCard.lean, 'card_holds'). Laid BY PROGRAM, IN A SANDBOX (cutbox-door.mjs). By AI agents, Wed Nov 11 2026. No macro, syntax, notation, axiom, sorry.
-/
import Derived.Test.YtkfpcohdbbhmaaaDoorRows
import GoSem.ClaimSeven
namespace Go.Proofs.YtkfpcohdbbhmaaaDoor
namespace Rows

/-- THE TIED CARD OF 'barscanlaw02.BigintDivides'. -/
def bigintDividesCard : Claim7 := { stood := { row := bigintDividesRow, standIns := [], harness := (true, "f931f25570aafcd944b2a50992ab3e74cb2d937781f6ca6f730005d5a81d9b73"), looks := false }, kinds := [], alts := [], laidByText := true, laidKinds := [.data, .data, .data], laidTests := true, laidLooks := .later }
def BigintDividesCardSaid : Prop := Claim7.holds Tryd.pinned (.plain (OpenSpec.ofChange bigintDividesSpec)) bigintDividesCard

/-- THE TIED CARD OF 'barscanlaw02.BigintPowers'. -/
def bigintPowersCard : Claim7 := { stood := { row := bigintPowersRow, standIns := [], harness := (true, "f931f25570aafcd944b2a50992ab3e74cb2d937781f6ca6f730005d5a81d9b73"), looks := false }, kinds := [], alts := [], laidByText := true, laidKinds := [.data, .data, .data], laidTests := true, laidLooks := .later }
def BigintPowersCardSaid : Prop := Claim7.holds Tryd.pinned (.plain (OpenSpec.ofChange bigintPowersSpec)) bigintPowersCard

/-- THE TIED CARD OF 'barscanlaw02.BigintTexts'. -/
def bigintTextsCard : Claim7 := { stood := { row := bigintTextsRow, standIns := [], harness := (true, "f931f25570aafcd944b2a50992ab3e74cb2d937781f6ca6f730005d5a81d9b73"), looks := false }, kinds := [], alts := [], laidByText := true, laidKinds := [.data, .data, .data], laidTests := true, laidLooks := .later }
def BigintTextsCardSaid : Prop := Claim7.holds Tryd.pinned (.plain (OpenSpec.ofChange bigintTextsSpec)) bigintTextsCard

/-- THE TIED CARD OF 'barscanlaw02.BigintMultiplies'. -/
def bigintMultipliesCard : Claim7 := { stood := { row := bigintMultipliesRow, standIns := [], harness := (true, "f931f25570aafcd944b2a50992ab3e74cb2d937781f6ca6f730005d5a81d9b73"), looks := false }, kinds := [], alts := [], laidByText := true, laidKinds := [.data, .data, .data], laidTests := true, laidLooks := .later }
def BigintMultipliesCardSaid : Prop := Claim7.holds Tryd.pinned (.plain (OpenSpec.ofChange bigintMultipliesSpec)) bigintMultipliesCard

/-- THE TIED CARD OF 'barscanlaw02.BigintPowerLaw'. -/
def bigintPowerLawCard : Claim7 := { stood := { row := bigintPowerLawRow, standIns := [], harness := (true, "f931f25570aafcd944b2a50992ab3e74cb2d937781f6ca6f730005d5a81d9b73"), looks := false }, kinds := [], alts := [], laidByText := true, laidKinds := [.data, .data, .data], laidTests := true, laidLooks := .later }
def BigintPowerLawCardSaid : Prop := Claim7.holds Tryd.pinned (.plain (OpenSpec.ofChange bigintPowerLawSpec)) bigintPowerLawCard

/-- THE TIED CARD OF 'barscanlaw02.BigintConverts'. -/
def bigintConvertsCard : Claim7 := { stood := { row := bigintConvertsRow, standIns := [], harness := (true, "f931f25570aafcd944b2a50992ab3e74cb2d937781f6ca6f730005d5a81d9b73"), looks := false }, kinds := [], alts := [], laidByText := true, laidKinds := [.data, .data, .data], laidTests := true, laidLooks := .later }
def BigintConvertsCardSaid : Prop := Claim7.holds Tryd.pinned (.plain (OpenSpec.ofChange bigintConvertsSpec)) bigintConvertsCard

/-- THE TIED CARD OF 'barscanlaw02.BigintDigits'. -/
def bigintDigitsCard : Claim7 := { stood := { row := bigintDigitsRow, standIns := [], harness := (true, "f931f25570aafcd944b2a50992ab3e74cb2d937781f6ca6f730005d5a81d9b73"), looks := false }, kinds := [], alts := [], laidByText := true, laidKinds := [.data, .data, .data], laidTests := true, laidLooks := .later }
def BigintDigitsCardSaid : Prop := Claim7.holds Tryd.pinned (.plain (OpenSpec.ofChange bigintDigitsSpec)) bigintDigitsCard

/-- THE TIED CARD OF 'barscanlaw02.BigintRing'. -/
def bigintRingCard : Claim7 := { stood := { row := bigintRingRow, standIns := [], harness := (true, "f931f25570aafcd944b2a50992ab3e74cb2d937781f6ca6f730005d5a81d9b73"), looks := false }, kinds := [], alts := [], laidByText := true, laidKinds := [.data, .data, .data], laidTests := true, laidLooks := .later }
def BigintRingCardSaid : Prop := Claim7.holds Tryd.pinned (.plain (OpenSpec.ofChange bigintRingSpec)) bigintRingCard

/-- THE TIED CARD OF 'barscanlaw02.BigintOrder'. -/
def bigintOrderCard : Claim7 := { stood := { row := bigintOrderRow, standIns := [], harness := (true, "f931f25570aafcd944b2a50992ab3e74cb2d937781f6ca6f730005d5a81d9b73"), looks := false }, kinds := [], alts := [], laidByText := true, laidKinds := [.data, .data, .data], laidTests := true, laidLooks := .later }
def BigintOrderCardSaid : Prop := Claim7.holds Tryd.pinned (.plain (OpenSpec.ofChange bigintOrderSpec)) bigintOrderCard

/-- THE TIED CARD OF 'barscanlaw02.BigintRoundTrips'. -/
def bigintRoundTripsCard : Claim7 := { stood := { row := bigintRoundTripsRow, standIns := [], harness := (true, "f931f25570aafcd944b2a50992ab3e74cb2d937781f6ca6f730005d5a81d9b73"), looks := false }, kinds := [], alts := [], laidByText := true, laidKinds := [.data, .data, .data], laidTests := true, laidLooks := .later }
def BigintRoundTripsCardSaid : Prop := Claim7.holds Tryd.pinned (.plain (OpenSpec.ofChange bigintRoundTripsSpec)) bigintRoundTripsCard

/-- THE TIED CARD OF 'barscanlaw02.BigintAdds'. -/
def bigintAddsCard : Claim7 := { stood := { row := bigintAddsRow, standIns := [], harness := (true, "f931f25570aafcd944b2a50992ab3e74cb2d937781f6ca6f730005d5a81d9b73"), looks := false }, kinds := [], alts := [], laidByText := true, laidKinds := [.data, .data, .data], laidTests := true, laidLooks := .later }
def BigintAddsCardSaid : Prop := Claim7.holds Tryd.pinned (.plain (OpenSpec.ofChange bigintAddsSpec)) bigintAddsCard

/-- THE TIED CARD OF 'barscanlaw02.BigintEuclid'. -/
def bigintEuclidCard : Claim7 := { stood := { row := bigintEuclidRow, standIns := [], harness := (true, "f931f25570aafcd944b2a50992ab3e74cb2d937781f6ca6f730005d5a81d9b73"), looks := false }, kinds := [], alts := [], laidByText := true, laidKinds := [.data, .data, .data], laidTests := true, laidLooks := .later }
def BigintEuclidCardSaid : Prop := Claim7.holds Tryd.pinned (.plain (OpenSpec.ofChange bigintEuclidSpec)) bigintEuclidCard

/-- THE SECOND FORM's CARD OF 'barscanlaw02.BigintDivides'. -/
def bigintDividesUptoCard : Claim7 := { stood := { row := bigintDividesUptoRow, standIns := [], harness := (true, "f931f25570aafcd944b2a50992ab3e74cb2d937781f6ca6f730005d5a81d9b73"), looks := false }, kinds := [], alts := [], laidByText := true, laidKinds := [.data, .data, .data], laidTests := true, laidLooks := .later }
def BigintDividesUptoCardSaid : Prop := Claim7.holds Tryd.pinned (.plain (OpenSpec.upto bigintDividesSpec)) bigintDividesUptoCard

/-- THE SECOND FORM's CARD OF 'barscanlaw02.BigintPowers'. -/
def bigintPowersUptoCard : Claim7 := { stood := { row := bigintPowersUptoRow, standIns := [], harness := (true, "f931f25570aafcd944b2a50992ab3e74cb2d937781f6ca6f730005d5a81d9b73"), looks := false }, kinds := [], alts := [], laidByText := true, laidKinds := [.data, .data, .data], laidTests := true, laidLooks := .later }
def BigintPowersUptoCardSaid : Prop := Claim7.holds Tryd.pinned (.plain (OpenSpec.upto bigintPowersSpec)) bigintPowersUptoCard

/-- THE SECOND FORM's CARD OF 'barscanlaw02.BigintTexts'. -/
def bigintTextsUptoCard : Claim7 := { stood := { row := bigintTextsUptoRow, standIns := [], harness := (true, "f931f25570aafcd944b2a50992ab3e74cb2d937781f6ca6f730005d5a81d9b73"), looks := false }, kinds := [], alts := [], laidByText := true, laidKinds := [.data, .data, .data], laidTests := true, laidLooks := .later }
def BigintTextsUptoCardSaid : Prop := Claim7.holds Tryd.pinned (.plain (OpenSpec.upto bigintTextsSpec)) bigintTextsUptoCard

/-- THE SECOND FORM's CARD OF 'barscanlaw02.BigintMultiplies'. -/
def bigintMultipliesUptoCard : Claim7 := { stood := { row := bigintMultipliesUptoRow, standIns := [], harness := (true, "f931f25570aafcd944b2a50992ab3e74cb2d937781f6ca6f730005d5a81d9b73"), looks := false }, kinds := [], alts := [], laidByText := true, laidKinds := [.data, .data, .data], laidTests := true, laidLooks := .later }
def BigintMultipliesUptoCardSaid : Prop := Claim7.holds Tryd.pinned (.plain (OpenSpec.upto bigintMultipliesSpec)) bigintMultipliesUptoCard

/-- THE SECOND FORM's CARD OF 'barscanlaw02.BigintPowerLaw'. -/
def bigintPowerLawUptoCard : Claim7 := { stood := { row := bigintPowerLawUptoRow, standIns := [], harness := (true, "f931f25570aafcd944b2a50992ab3e74cb2d937781f6ca6f730005d5a81d9b73"), looks := false }, kinds := [], alts := [], laidByText := true, laidKinds := [.data, .data, .data], laidTests := true, laidLooks := .later }
def BigintPowerLawUptoCardSaid : Prop := Claim7.holds Tryd.pinned (.plain (OpenSpec.upto bigintPowerLawSpec)) bigintPowerLawUptoCard

/-- THE SECOND FORM's CARD OF 'barscanlaw02.BigintConverts'. -/
def bigintConvertsUptoCard : Claim7 := { stood := { row := bigintConvertsUptoRow, standIns := [], harness := (true, "f931f25570aafcd944b2a50992ab3e74cb2d937781f6ca6f730005d5a81d9b73"), looks := false }, kinds := [], alts := [], laidByText := true, laidKinds := [.data, .data, .data], laidTests := true, laidLooks := .later }
def BigintConvertsUptoCardSaid : Prop := Claim7.holds Tryd.pinned (.plain (OpenSpec.upto bigintConvertsSpec)) bigintConvertsUptoCard

/-- THE SECOND FORM's CARD OF 'barscanlaw02.BigintDigits'. -/
def bigintDigitsUptoCard : Claim7 := { stood := { row := bigintDigitsUptoRow, standIns := [], harness := (true, "f931f25570aafcd944b2a50992ab3e74cb2d937781f6ca6f730005d5a81d9b73"), looks := false }, kinds := [], alts := [], laidByText := true, laidKinds := [.data, .data, .data], laidTests := true, laidLooks := .later }
def BigintDigitsUptoCardSaid : Prop := Claim7.holds Tryd.pinned (.plain (OpenSpec.upto bigintDigitsSpec)) bigintDigitsUptoCard

/-- THE SECOND FORM's CARD OF 'barscanlaw02.BigintRing'. -/
def bigintRingUptoCard : Claim7 := { stood := { row := bigintRingUptoRow, standIns := [], harness := (true, "f931f25570aafcd944b2a50992ab3e74cb2d937781f6ca6f730005d5a81d9b73"), looks := false }, kinds := [], alts := [], laidByText := true, laidKinds := [.data, .data, .data], laidTests := true, laidLooks := .later }
def BigintRingUptoCardSaid : Prop := Claim7.holds Tryd.pinned (.plain (OpenSpec.upto bigintRingSpec)) bigintRingUptoCard

/-- THE SECOND FORM's CARD OF 'barscanlaw02.BigintOrder'. -/
def bigintOrderUptoCard : Claim7 := { stood := { row := bigintOrderUptoRow, standIns := [], harness := (true, "f931f25570aafcd944b2a50992ab3e74cb2d937781f6ca6f730005d5a81d9b73"), looks := false }, kinds := [], alts := [], laidByText := true, laidKinds := [.data, .data, .data], laidTests := true, laidLooks := .later }
def BigintOrderUptoCardSaid : Prop := Claim7.holds Tryd.pinned (.plain (OpenSpec.upto bigintOrderSpec)) bigintOrderUptoCard

/-- THE SECOND FORM's CARD OF 'barscanlaw02.BigintRoundTrips'. -/
def bigintRoundTripsUptoCard : Claim7 := { stood := { row := bigintRoundTripsUptoRow, standIns := [], harness := (true, "f931f25570aafcd944b2a50992ab3e74cb2d937781f6ca6f730005d5a81d9b73"), looks := false }, kinds := [], alts := [], laidByText := true, laidKinds := [.data, .data, .data], laidTests := true, laidLooks := .later }
def BigintRoundTripsUptoCardSaid : Prop := Claim7.holds Tryd.pinned (.plain (OpenSpec.upto bigintRoundTripsSpec)) bigintRoundTripsUptoCard

/-- THE SECOND FORM's CARD OF 'barscanlaw02.BigintAdds'. -/
def bigintAddsUptoCard : Claim7 := { stood := { row := bigintAddsUptoRow, standIns := [], harness := (true, "f931f25570aafcd944b2a50992ab3e74cb2d937781f6ca6f730005d5a81d9b73"), looks := false }, kinds := [], alts := [], laidByText := true, laidKinds := [.data, .data, .data], laidTests := true, laidLooks := .later }
def BigintAddsUptoCardSaid : Prop := Claim7.holds Tryd.pinned (.plain (OpenSpec.upto bigintAddsSpec)) bigintAddsUptoCard

/-- THE SECOND FORM's CARD OF 'barscanlaw02.BigintEuclid'. -/
def bigintEuclidUptoCard : Claim7 := { stood := { row := bigintEuclidUptoRow, standIns := [], harness := (true, "f931f25570aafcd944b2a50992ab3e74cb2d937781f6ca6f730005d5a81d9b73"), looks := false }, kinds := [], alts := [], laidByText := true, laidKinds := [.data, .data, .data], laidTests := true, laidLooks := .later }
def BigintEuclidUptoCardSaid : Prop := Claim7.holds Tryd.pinned (.plain (OpenSpec.upto bigintEuclidSpec)) bigintEuclidUptoCard
end Rows
end Go.Proofs.YtkfpcohdbbhmaaaDoor
