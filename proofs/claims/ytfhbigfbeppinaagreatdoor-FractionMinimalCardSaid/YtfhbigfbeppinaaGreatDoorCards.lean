/-
  DERIVED. GIVEN WITH THE SEED: THE CARDS: each row of YtfhbigfbeppinaaGreatDoorRows.lean that lists a variable, with what it lists TIED to the program's text (the seventh form; the later family's looks); each row that meets fmt, with fmt's text TOLD by the authors' own Lean function (tested against real Go, not proved from fmt's source: count such statements apart). THE CARD IS WHAT COUNTS. Prove the row's statement (the work); the ties are given (YtfhbigfbeppinaaGreatDoorTie.lean); close each card by the builder's one call (the guide's Derived/Test/ToyasCard.lean, 'card_holds'). Laid BY PROGRAM, IN A SANDBOX (cutbox-door.mjs). By AI agents, Wed Nov 11 2026. No macro, syntax, notation, axiom, sorry.
-/
import Derived.Test.YtfhbigfbeppinaaGreatDoorRows
import GoSem.ClaimSeven
namespace Go.Proofs.YtfhbigfbeppinaaGreatDoor
namespace Rows

/-- THE TIED CARD OF 'barscanlaw03.FractionNews'. -/
def fractionNewsCard : Claim7 := { stood := { row := fractionNewsRow, standIns := [], harness := (true, "d75d9462a5a5e1b1a2a4d6e630c7af45413919b5f004df6d09e382647855e472"), looks := false }, kinds := [], alts := [], laidByText := true, laidKinds := [.data, .data, .data], laidTests := true, laidLooks := .later }
def FractionNewsCardSaid : Prop := Claim7.holds Tryz.pinned (.plain (OpenSpec.ofChange fractionNewsSpec)) fractionNewsCard

/-- THE TIED CARD OF 'barscanlaw03.FractionProducts'. -/
def fractionProductsCard : Claim7 := { stood := { row := fractionProductsRow, standIns := [], harness := (true, "d75d9462a5a5e1b1a2a4d6e630c7af45413919b5f004df6d09e382647855e472"), looks := false }, kinds := [], alts := [], laidByText := true, laidKinds := [.data, .data, .data], laidTests := true, laidLooks := .later }
def FractionProductsCardSaid : Prop := Claim7.holds Tryz.pinned (.plain (OpenSpec.ofChange fractionProductsSpec)) fractionProductsCard

/-- THE TIED CARD OF 'barscanlaw03.FractionTexts'. -/
def fractionTextsCard : Claim7 := { stood := { row := fractionTextsRow, standIns := [], harness := (true, "d75d9462a5a5e1b1a2a4d6e630c7af45413919b5f004df6d09e382647855e472"), looks := false }, kinds := [], alts := [], laidByText := true, laidKinds := [.data, .data, .data], laidTests := true, laidLooks := .later }
def FractionTextsCardSaid : Prop := Claim7.holds Tryz.pinned (.plain (OpenSpec.ofChange fractionTextsSpec)) fractionTextsCard

/-- THE TIED CARD OF 'barscanlaw03.FractionSimplest'. -/
def fractionSimplestCard : Claim7 := { stood := { row := fractionSimplestRow, standIns := [], harness := (true, "d75d9462a5a5e1b1a2a4d6e630c7af45413919b5f004df6d09e382647855e472"), looks := false }, kinds := [], alts := [], laidByText := true, laidKinds := [.data, .data, .data], laidTests := true, laidLooks := .later }
def FractionSimplestCardSaid : Prop := Claim7.holds Tryz.pinned (.plain (OpenSpec.ofChange fractionSimplestSpec)) fractionSimplestCard

/-- THE TIED CARD OF 'barscanlaw03.FractionLimits'. -/
def fractionLimitsCard : Claim7 := { stood := { row := fractionLimitsRow, standIns := [], harness := (true, "d75d9462a5a5e1b1a2a4d6e630c7af45413919b5f004df6d09e382647855e472"), looks := false }, kinds := [], alts := [], laidByText := true, laidKinds := [.data, .data, .data], laidTests := true, laidLooks := .later }
def FractionLimitsCardSaid : Prop := Claim7.holds Tryz.pinned (.plain (OpenSpec.ofChange fractionLimitsSpec)) fractionLimitsCard

/-- THE TIED CARD OF 'barscanlaw03.FractionSums'. -/
def fractionSumsCard : Claim7 := { stood := { row := fractionSumsRow, standIns := [], harness := (true, "d75d9462a5a5e1b1a2a4d6e630c7af45413919b5f004df6d09e382647855e472"), looks := false }, kinds := [], alts := [], laidByText := true, laidKinds := [.data, .data, .data], laidTests := true, laidLooks := .later }
def FractionSumsCardSaid : Prop := Claim7.holds Tryz.pinned (.plain (OpenSpec.ofChange fractionSumsSpec)) fractionSumsCard

/-- THE TIED CARD OF 'barscanlaw03.FractionField'. -/
def fractionFieldCard : Claim7 := { stood := { row := fractionFieldRow, standIns := [], harness := (true, "d75d9462a5a5e1b1a2a4d6e630c7af45413919b5f004df6d09e382647855e472"), looks := false }, kinds := [], alts := [], laidByText := true, laidKinds := [.data, .data, .data], laidTests := true, laidLooks := .later }
def FractionFieldCardSaid : Prop := Claim7.holds Tryz.pinned (.plain (OpenSpec.ofChange fractionFieldSpec)) fractionFieldCard

/-- THE TIED CARD OF 'barscanlaw03.FractionOrder'. -/
def fractionOrderCard : Claim7 := { stood := { row := fractionOrderRow, standIns := [], harness := (true, "d75d9462a5a5e1b1a2a4d6e630c7af45413919b5f004df6d09e382647855e472"), looks := false }, kinds := [], alts := [], laidByText := true, laidKinds := [.data, .data, .data], laidTests := true, laidLooks := .later }
def FractionOrderCardSaid : Prop := Claim7.holds Tryz.pinned (.plain (OpenSpec.ofChange fractionOrderSpec)) fractionOrderCard

/-- THE TIED CARD OF 'barscanlaw03.FractionMinimal'. -/
def fractionMinimalCard : Claim7 := { stood := { row := fractionMinimalRow, standIns := [], harness := (true, "d75d9462a5a5e1b1a2a4d6e630c7af45413919b5f004df6d09e382647855e472"), looks := false }, kinds := [], alts := [], laidByText := true, laidKinds := [.data, .data, .data], laidTests := true, laidLooks := .later }
def FractionMinimalCardSaid : Prop := Claim7.holds Tryz.pinned (.plain (OpenSpec.ofChange fractionMinimalSpec)) fractionMinimalCard

/-- THE TIED CARD OF 'barscanlaw03.FractionCompares'. -/
def fractionComparesCard : Claim7 := { stood := { row := fractionComparesRow, standIns := [], harness := (true, "d75d9462a5a5e1b1a2a4d6e630c7af45413919b5f004df6d09e382647855e472"), looks := false }, kinds := [], alts := [], laidByText := true, laidKinds := [.data, .data, .data], laidTests := true, laidLooks := .later }
def FractionComparesCardSaid : Prop := Claim7.holds Tryz.pinned (.plain (OpenSpec.ofChange fractionComparesSpec)) fractionComparesCard

/-- THE TIED CARD OF 'barscanlaw03.FractionNearest'. -/
def fractionNearestCard : Claim7 := { stood := { row := fractionNearestRow, standIns := [], harness := (true, "d75d9462a5a5e1b1a2a4d6e630c7af45413919b5f004df6d09e382647855e472"), looks := false }, kinds := [], alts := [], laidByText := true, laidKinds := [.data, .data, .data], laidTests := true, laidLooks := .later }
def FractionNearestCardSaid : Prop := Claim7.holds Tryz.pinned (.plain (OpenSpec.ofChange fractionNearestSpec)) fractionNearestCard

/-- THE TIED CARD OF 'barscanlaw03.FractionFresh'. -/
def fractionFreshCard : Claim7 := { stood := { row := fractionFreshRow, standIns := [], harness := (true, "d75d9462a5a5e1b1a2a4d6e630c7af45413919b5f004df6d09e382647855e472"), looks := false }, kinds := [], alts := [], laidByText := true, laidKinds := [.data, .data, .data], laidTests := true, laidLooks := .later }
def FractionFreshCardSaid : Prop := Claim7.holds Tryz.pinned (.plain (OpenSpec.ofChange fractionFreshSpec)) fractionFreshCard

/-- THE SECOND FORM's CARD OF 'barscanlaw03.FractionNews'. -/
def fractionNewsUptoCard : Claim7 := { stood := { row := fractionNewsUptoRow, standIns := [], harness := (true, "d75d9462a5a5e1b1a2a4d6e630c7af45413919b5f004df6d09e382647855e472"), looks := false }, kinds := [], alts := [], laidByText := true, laidKinds := [.data, .data, .data], laidTests := true, laidLooks := .later }
def FractionNewsUptoCardSaid : Prop := Claim7.holds Tryz.pinned (.plain (OpenSpec.upto fractionNewsSpec)) fractionNewsUptoCard

/-- THE SECOND FORM's CARD OF 'barscanlaw03.FractionProducts'. -/
def fractionProductsUptoCard : Claim7 := { stood := { row := fractionProductsUptoRow, standIns := [], harness := (true, "d75d9462a5a5e1b1a2a4d6e630c7af45413919b5f004df6d09e382647855e472"), looks := false }, kinds := [], alts := [], laidByText := true, laidKinds := [.data, .data, .data], laidTests := true, laidLooks := .later }
def FractionProductsUptoCardSaid : Prop := Claim7.holds Tryz.pinned (.plain (OpenSpec.upto fractionProductsSpec)) fractionProductsUptoCard

/-- THE SECOND FORM's CARD OF 'barscanlaw03.FractionTexts'. -/
def fractionTextsUptoCard : Claim7 := { stood := { row := fractionTextsUptoRow, standIns := [], harness := (true, "d75d9462a5a5e1b1a2a4d6e630c7af45413919b5f004df6d09e382647855e472"), looks := false }, kinds := [], alts := [], laidByText := true, laidKinds := [.data, .data, .data], laidTests := true, laidLooks := .later }
def FractionTextsUptoCardSaid : Prop := Claim7.holds Tryz.pinned (.plain (OpenSpec.upto fractionTextsSpec)) fractionTextsUptoCard

/-- THE SECOND FORM's CARD OF 'barscanlaw03.FractionSimplest'. -/
def fractionSimplestUptoCard : Claim7 := { stood := { row := fractionSimplestUptoRow, standIns := [], harness := (true, "d75d9462a5a5e1b1a2a4d6e630c7af45413919b5f004df6d09e382647855e472"), looks := false }, kinds := [], alts := [], laidByText := true, laidKinds := [.data, .data, .data], laidTests := true, laidLooks := .later }
def FractionSimplestUptoCardSaid : Prop := Claim7.holds Tryz.pinned (.plain (OpenSpec.upto fractionSimplestSpec)) fractionSimplestUptoCard

/-- THE SECOND FORM's CARD OF 'barscanlaw03.FractionLimits'. -/
def fractionLimitsUptoCard : Claim7 := { stood := { row := fractionLimitsUptoRow, standIns := [], harness := (true, "d75d9462a5a5e1b1a2a4d6e630c7af45413919b5f004df6d09e382647855e472"), looks := false }, kinds := [], alts := [], laidByText := true, laidKinds := [.data, .data, .data], laidTests := true, laidLooks := .later }
def FractionLimitsUptoCardSaid : Prop := Claim7.holds Tryz.pinned (.plain (OpenSpec.upto fractionLimitsSpec)) fractionLimitsUptoCard

/-- THE SECOND FORM's CARD OF 'barscanlaw03.FractionSums'. -/
def fractionSumsUptoCard : Claim7 := { stood := { row := fractionSumsUptoRow, standIns := [], harness := (true, "d75d9462a5a5e1b1a2a4d6e630c7af45413919b5f004df6d09e382647855e472"), looks := false }, kinds := [], alts := [], laidByText := true, laidKinds := [.data, .data, .data], laidTests := true, laidLooks := .later }
def FractionSumsUptoCardSaid : Prop := Claim7.holds Tryz.pinned (.plain (OpenSpec.upto fractionSumsSpec)) fractionSumsUptoCard

/-- THE SECOND FORM's CARD OF 'barscanlaw03.FractionField'. -/
def fractionFieldUptoCard : Claim7 := { stood := { row := fractionFieldUptoRow, standIns := [], harness := (true, "d75d9462a5a5e1b1a2a4d6e630c7af45413919b5f004df6d09e382647855e472"), looks := false }, kinds := [], alts := [], laidByText := true, laidKinds := [.data, .data, .data], laidTests := true, laidLooks := .later }
def FractionFieldUptoCardSaid : Prop := Claim7.holds Tryz.pinned (.plain (OpenSpec.upto fractionFieldSpec)) fractionFieldUptoCard

/-- THE SECOND FORM's CARD OF 'barscanlaw03.FractionOrder'. -/
def fractionOrderUptoCard : Claim7 := { stood := { row := fractionOrderUptoRow, standIns := [], harness := (true, "d75d9462a5a5e1b1a2a4d6e630c7af45413919b5f004df6d09e382647855e472"), looks := false }, kinds := [], alts := [], laidByText := true, laidKinds := [.data, .data, .data], laidTests := true, laidLooks := .later }
def FractionOrderUptoCardSaid : Prop := Claim7.holds Tryz.pinned (.plain (OpenSpec.upto fractionOrderSpec)) fractionOrderUptoCard

/-- THE SECOND FORM's CARD OF 'barscanlaw03.FractionMinimal'. -/
def fractionMinimalUptoCard : Claim7 := { stood := { row := fractionMinimalUptoRow, standIns := [], harness := (true, "d75d9462a5a5e1b1a2a4d6e630c7af45413919b5f004df6d09e382647855e472"), looks := false }, kinds := [], alts := [], laidByText := true, laidKinds := [.data, .data, .data], laidTests := true, laidLooks := .later }
def FractionMinimalUptoCardSaid : Prop := Claim7.holds Tryz.pinned (.plain (OpenSpec.upto fractionMinimalSpec)) fractionMinimalUptoCard

/-- THE SECOND FORM's CARD OF 'barscanlaw03.FractionCompares'. -/
def fractionComparesUptoCard : Claim7 := { stood := { row := fractionComparesUptoRow, standIns := [], harness := (true, "d75d9462a5a5e1b1a2a4d6e630c7af45413919b5f004df6d09e382647855e472"), looks := false }, kinds := [], alts := [], laidByText := true, laidKinds := [.data, .data, .data], laidTests := true, laidLooks := .later }
def FractionComparesUptoCardSaid : Prop := Claim7.holds Tryz.pinned (.plain (OpenSpec.upto fractionComparesSpec)) fractionComparesUptoCard

/-- THE SECOND FORM's CARD OF 'barscanlaw03.FractionNearest'. -/
def fractionNearestUptoCard : Claim7 := { stood := { row := fractionNearestUptoRow, standIns := [], harness := (true, "d75d9462a5a5e1b1a2a4d6e630c7af45413919b5f004df6d09e382647855e472"), looks := false }, kinds := [], alts := [], laidByText := true, laidKinds := [.data, .data, .data], laidTests := true, laidLooks := .later }
def FractionNearestUptoCardSaid : Prop := Claim7.holds Tryz.pinned (.plain (OpenSpec.upto fractionNearestSpec)) fractionNearestUptoCard

/-- THE SECOND FORM's CARD OF 'barscanlaw03.FractionFresh'. -/
def fractionFreshUptoCard : Claim7 := { stood := { row := fractionFreshUptoRow, standIns := [], harness := (true, "d75d9462a5a5e1b1a2a4d6e630c7af45413919b5f004df6d09e382647855e472"), looks := false }, kinds := [], alts := [], laidByText := true, laidKinds := [.data, .data, .data], laidTests := true, laidLooks := .later }
def FractionFreshUptoCardSaid : Prop := Claim7.holds Tryz.pinned (.plain (OpenSpec.upto fractionFreshSpec)) fractionFreshUptoCard
end Rows
end Go.Proofs.YtfhbigfbeppinaaGreatDoor
