/-
  DERIVED. GIVEN WITH THE SEED: THE CARDS: each row of YtnllofjjffflkaaGreatDoorRows.lean that lists a variable, with what it lists TIED to the program's text (the seventh form; the later family's looks); each row that meets fmt, with fmt's text TOLD by the authors' own Lean function (tested against real Go, not proved from fmt's source: count such statements apart). THE CARD IS WHAT COUNTS. Prove the row's statement (the work); the ties are given (YtnllofjjffflkaaGreatDoorTie.lean); close each card by the builder's one call (the guide's Derived/Test/ToyasCard.lean, 'card_holds'). Laid BY PROGRAM, IN A SANDBOX (cutbox-door.mjs). By AI agents, Wed Nov 11 2026. No macro, syntax, notation, axiom, sorry.
-/
import Derived.Test.YtnllofjjffflkaaGreatDoorRows
import GoSem.ClaimSeven
namespace Go.Proofs.YtnllofjjffflkaaGreatDoor
namespace Rows

/-- THE TIED CARD OF 'guidepostlaw02.DataReads'. -/
def dataReadsCard : Claim7 := { stood := { row := dataReadsRow, standIns := [], harness := (true, "a0f85a9132c8e8352f9060f9a708e1cbcc32a56549cf14f4e332dff64711b89e"), looks := true }, kinds := [], alts := [], laidByText := true, laidKinds := [.data, .data, .data, .data, .sentinel, .sentinel, .pinned], laidTests := true, laidLooks := .later }
def DataReadsCardSaid : Prop := Claim7.holds Tryz.pinned (.plain (OpenSpec.ofChange dataReadsSpec)) dataReadsCard

/-- THE TIED CARD OF 'guidepostlaw02.DataTakes'. -/
def dataTakesCard : Claim7 := { stood := { row := dataTakesRow, standIns := [], harness := (true, "a0f85a9132c8e8352f9060f9a708e1cbcc32a56549cf14f4e332dff64711b89e"), looks := true }, kinds := [], alts := [], laidByText := true, laidKinds := [.data, .data, .data, .data, .sentinel, .sentinel, .pinned], laidTests := true, laidLooks := .later }
def DataTakesCardSaid : Prop := Claim7.holds Tryz.pinned (.plain (OpenSpec.ofChange dataTakesSpec)) dataTakesCard

/-- THE TIED CARD OF 'guidepostlaw02.DataMakes'. -/
def dataMakesCard : Claim7 := { stood := { row := dataMakesRow, standIns := [], harness := (true, "a0f85a9132c8e8352f9060f9a708e1cbcc32a56549cf14f4e332dff64711b89e"), looks := true }, kinds := [], alts := [], laidByText := true, laidKinds := [.data, .data, .data, .data, .sentinel, .sentinel, .pinned], laidTests := true, laidLooks := .later }
def DataMakesCardSaid : Prop := Claim7.holds Tryz.pinned (.plain (OpenSpec.ofChange dataMakesSpec)) dataMakesCard

/-- THE TIED CARD OF 'guidepostlaw02.DataDenials'. -/
def dataDenialsCard : Claim7 := { stood := { row := dataDenialsRow, standIns := [], harness := (true, "a0f85a9132c8e8352f9060f9a708e1cbcc32a56549cf14f4e332dff64711b89e"), looks := true }, kinds := [], alts := [], laidByText := true, laidKinds := [.data, .data, .data, .data, .sentinel, .sentinel, .pinned], laidTests := true, laidLooks := .later }
def DataDenialsCardSaid : Prop := Claim7.holds Tryz.pinned (.plain (OpenSpec.ofChange dataDenialsSpec)) dataDenialsCard

/-- THE TIED CARD OF 'guidepostlaw02.DataBack'. -/
def dataBackCard : Claim7 := { stood := { row := dataBackRow, standIns := [], harness := (true, "a0f85a9132c8e8352f9060f9a708e1cbcc32a56549cf14f4e332dff64711b89e"), looks := true }, kinds := [], alts := [], laidByText := true, laidKinds := [.data, .data, .data, .data, .sentinel, .sentinel, .pinned], laidTests := true, laidLooks := .later }
def DataBackCardSaid : Prop := Claim7.holds Tryz.pinned (.plain (OpenSpec.ofChange dataBackSpec)) dataBackCard

/-- THE TIED CARD OF 'guidepostlaw02.DataAgain'. -/
def dataAgainCard : Claim7 := { stood := { row := dataAgainRow, standIns := [], harness := (true, "a0f85a9132c8e8352f9060f9a708e1cbcc32a56549cf14f4e332dff64711b89e"), looks := true }, kinds := [], alts := [], laidByText := true, laidKinds := [.data, .data, .data, .data, .sentinel, .sentinel, .pinned], laidTests := true, laidLooks := .later }
def DataAgainCardSaid : Prop := Claim7.holds Tryz.pinned (.plain (OpenSpec.ofChange dataAgainSpec)) dataAgainCard

/-- THE TIED CARD OF 'guidepostlaw02.DataRises'. -/
def dataRisesCard : Claim7 := { stood := { row := dataRisesRow, standIns := [], harness := (true, "a0f85a9132c8e8352f9060f9a708e1cbcc32a56549cf14f4e332dff64711b89e"), looks := true }, kinds := [], alts := [], laidByText := true, laidKinds := [.data, .data, .data, .data, .sentinel, .sentinel, .pinned], laidTests := true, laidLooks := .later }
def DataRisesCardSaid : Prop := Claim7.holds Tryz.pinned (.plain (OpenSpec.ofChange dataRisesSpec)) dataRisesCard

/-- THE TIED CARD OF 'guidepostlaw02.DataTells'. -/
def dataTellsCard : Claim7 := { stood := { row := dataTellsRow, standIns := [], harness := (true, "a0f85a9132c8e8352f9060f9a708e1cbcc32a56549cf14f4e332dff64711b89e"), looks := true }, kinds := [], alts := [], laidByText := true, laidKinds := [.data, .data, .data, .data, .sentinel, .sentinel, .pinned], laidTests := true, laidLooks := .later }
def DataTellsCardSaid : Prop := Claim7.holds Tryz.pinned (.plain (OpenSpec.ofChange dataTellsSpec)) dataTellsCard

/-- THE TIED CARD OF 'guidepostlaw02.DataSmall'. -/
def dataSmallCard : Claim7 := { stood := { row := dataSmallRow, standIns := [], harness := (true, "a0f85a9132c8e8352f9060f9a708e1cbcc32a56549cf14f4e332dff64711b89e"), looks := true }, kinds := [], alts := [], laidByText := true, laidKinds := [.data, .data, .data, .data, .sentinel, .sentinel, .pinned], laidTests := true, laidLooks := .later }
def DataSmallCardSaid : Prop := Claim7.holds Tryz.pinned (.plain (OpenSpec.ofChange dataSmallSpec)) dataSmallCard

/-- THE SECOND FORM's CARD OF 'guidepostlaw02.DataReads'. -/
def dataReadsUptoCard : Claim7 := { stood := { row := dataReadsUptoRow, standIns := [], harness := (true, "a0f85a9132c8e8352f9060f9a708e1cbcc32a56549cf14f4e332dff64711b89e"), looks := true }, kinds := [], alts := [], laidByText := true, laidKinds := [.data, .data, .data, .data, .sentinel, .sentinel, .pinned], laidTests := true, laidLooks := .later }
def DataReadsUptoCardSaid : Prop := Claim7.holds Tryz.pinned (.plain (OpenSpec.upto dataReadsSpec)) dataReadsUptoCard

/-- THE SECOND FORM's CARD OF 'guidepostlaw02.DataTakes'. -/
def dataTakesUptoCard : Claim7 := { stood := { row := dataTakesUptoRow, standIns := [], harness := (true, "a0f85a9132c8e8352f9060f9a708e1cbcc32a56549cf14f4e332dff64711b89e"), looks := true }, kinds := [], alts := [], laidByText := true, laidKinds := [.data, .data, .data, .data, .sentinel, .sentinel, .pinned], laidTests := true, laidLooks := .later }
def DataTakesUptoCardSaid : Prop := Claim7.holds Tryz.pinned (.plain (OpenSpec.upto dataTakesSpec)) dataTakesUptoCard

/-- THE SECOND FORM's CARD OF 'guidepostlaw02.DataMakes'. -/
def dataMakesUptoCard : Claim7 := { stood := { row := dataMakesUptoRow, standIns := [], harness := (true, "a0f85a9132c8e8352f9060f9a708e1cbcc32a56549cf14f4e332dff64711b89e"), looks := true }, kinds := [], alts := [], laidByText := true, laidKinds := [.data, .data, .data, .data, .sentinel, .sentinel, .pinned], laidTests := true, laidLooks := .later }
def DataMakesUptoCardSaid : Prop := Claim7.holds Tryz.pinned (.plain (OpenSpec.upto dataMakesSpec)) dataMakesUptoCard

/-- THE SECOND FORM's CARD OF 'guidepostlaw02.DataDenials'. -/
def dataDenialsUptoCard : Claim7 := { stood := { row := dataDenialsUptoRow, standIns := [], harness := (true, "a0f85a9132c8e8352f9060f9a708e1cbcc32a56549cf14f4e332dff64711b89e"), looks := true }, kinds := [], alts := [], laidByText := true, laidKinds := [.data, .data, .data, .data, .sentinel, .sentinel, .pinned], laidTests := true, laidLooks := .later }
def DataDenialsUptoCardSaid : Prop := Claim7.holds Tryz.pinned (.plain (OpenSpec.upto dataDenialsSpec)) dataDenialsUptoCard

/-- THE SECOND FORM's CARD OF 'guidepostlaw02.DataBack'. -/
def dataBackUptoCard : Claim7 := { stood := { row := dataBackUptoRow, standIns := [], harness := (true, "a0f85a9132c8e8352f9060f9a708e1cbcc32a56549cf14f4e332dff64711b89e"), looks := true }, kinds := [], alts := [], laidByText := true, laidKinds := [.data, .data, .data, .data, .sentinel, .sentinel, .pinned], laidTests := true, laidLooks := .later }
def DataBackUptoCardSaid : Prop := Claim7.holds Tryz.pinned (.plain (OpenSpec.upto dataBackSpec)) dataBackUptoCard

/-- THE SECOND FORM's CARD OF 'guidepostlaw02.DataAgain'. -/
def dataAgainUptoCard : Claim7 := { stood := { row := dataAgainUptoRow, standIns := [], harness := (true, "a0f85a9132c8e8352f9060f9a708e1cbcc32a56549cf14f4e332dff64711b89e"), looks := true }, kinds := [], alts := [], laidByText := true, laidKinds := [.data, .data, .data, .data, .sentinel, .sentinel, .pinned], laidTests := true, laidLooks := .later }
def DataAgainUptoCardSaid : Prop := Claim7.holds Tryz.pinned (.plain (OpenSpec.upto dataAgainSpec)) dataAgainUptoCard

/-- THE SECOND FORM's CARD OF 'guidepostlaw02.DataRises'. -/
def dataRisesUptoCard : Claim7 := { stood := { row := dataRisesUptoRow, standIns := [], harness := (true, "a0f85a9132c8e8352f9060f9a708e1cbcc32a56549cf14f4e332dff64711b89e"), looks := true }, kinds := [], alts := [], laidByText := true, laidKinds := [.data, .data, .data, .data, .sentinel, .sentinel, .pinned], laidTests := true, laidLooks := .later }
def DataRisesUptoCardSaid : Prop := Claim7.holds Tryz.pinned (.plain (OpenSpec.upto dataRisesSpec)) dataRisesUptoCard

/-- THE SECOND FORM's CARD OF 'guidepostlaw02.DataTells'. -/
def dataTellsUptoCard : Claim7 := { stood := { row := dataTellsUptoRow, standIns := [], harness := (true, "a0f85a9132c8e8352f9060f9a708e1cbcc32a56549cf14f4e332dff64711b89e"), looks := true }, kinds := [], alts := [], laidByText := true, laidKinds := [.data, .data, .data, .data, .sentinel, .sentinel, .pinned], laidTests := true, laidLooks := .later }
def DataTellsUptoCardSaid : Prop := Claim7.holds Tryz.pinned (.plain (OpenSpec.upto dataTellsSpec)) dataTellsUptoCard

/-- THE SECOND FORM's CARD OF 'guidepostlaw02.DataSmall'. -/
def dataSmallUptoCard : Claim7 := { stood := { row := dataSmallUptoRow, standIns := [], harness := (true, "a0f85a9132c8e8352f9060f9a708e1cbcc32a56549cf14f4e332dff64711b89e"), looks := true }, kinds := [], alts := [], laidByText := true, laidKinds := [.data, .data, .data, .data, .sentinel, .sentinel, .pinned], laidTests := true, laidLooks := .later }
def DataSmallUptoCardSaid : Prop := Claim7.holds Tryz.pinned (.plain (OpenSpec.upto dataSmallSpec)) dataSmallUptoCard
end Rows
end Go.Proofs.YtnllofjjffflkaaGreatDoor
