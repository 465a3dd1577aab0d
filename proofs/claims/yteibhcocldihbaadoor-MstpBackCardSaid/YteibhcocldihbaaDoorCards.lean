/-
  DERIVED. GIVEN WITH THE SEED: THE CARDS: each row of YteibhcocldihbaaDoorRows.lean that lists a variable, with what it lists TIED to the program's text (the seventh form; the later family's looks); each row that meets fmt, with fmt's text TOLD by the authors' own Lean function (tested against real Go, not proved from fmt's source: count such statements apart). THE CARD IS WHAT COUNTS. Prove the row's statement (the work); the ties are given (YteibhcocldihbaaDoorTie.lean); close each card by the builder's one call (the guide's Derived/Test/ToyasCard.lean, 'card_holds'). Laid BY PROGRAM, IN A SANDBOX (cutbox-door.mjs). By AI agents, Wed Nov 11 2026. No macro, syntax, notation, axiom, sorry.
-/
import Derived.Test.YteibhcocldihbaaDoorRows
import GoSem.ClaimSeven
namespace Go.Proofs.YteibhcocldihbaaDoor
namespace Rows

/-- THE TIED CARD OF 'switchyardkeep.MarkerBack'. -/
def markerBackCard : Claim7 := { stood := { row := markerBackRow, standIns := [], harness := (true, "22129ced09f6a071d063048ffcc4e3b6635c352997ae70be4ba362a273b33538"), looks := true }, kinds := [], alts := [], laidByText := true, laidKinds := [.handle], laidTests := true, laidLooks := .later }
def MarkerBackCardSaid : Prop := Claim7.holds Tryd.pinned (.plain (OpenSpec.ofChange markerBackSpec)) markerBackCard

/-- THE TIED CARD OF 'switchyardkeep.MstpBack'. -/
def mstpBackCard : Claim7 := { stood := { row := mstpBackRow, standIns := [], harness := (true, "22129ced09f6a071d063048ffcc4e3b6635c352997ae70be4ba362a273b33538"), looks := true }, kinds := [], alts := [], laidByText := true, laidKinds := [.data, .handle, .pinned], laidTests := true, laidLooks := .later }
def MstpBackCardSaid : Prop := Claim7.holds Tryd.pinned (.plain (OpenSpec.ofChange mstpBackSpec)) mstpBackCard

/-- THE TIED CARD OF 'switchyardkeep.MstpStill'. -/
def mstpStillCard : Claim7 := { stood := { row := mstpStillRow, standIns := [], harness := (true, "22129ced09f6a071d063048ffcc4e3b6635c352997ae70be4ba362a273b33538"), looks := true }, kinds := [], alts := [], laidByText := true, laidKinds := [.data, .pinned], laidTests := true, laidLooks := .later }
def MstpStillCardSaid : Prop := Claim7.holds Tryd.pinned (.plain (OpenSpec.ofChange mstpStillSpec)) mstpStillCard

/-- THE TIED CARD OF 'switchyardkeep.FrameBack'. -/
def frameBackCard : Claim7 := { stood := { row := frameBackRow, standIns := [], harness := (true, "22129ced09f6a071d063048ffcc4e3b6635c352997ae70be4ba362a273b33538"), looks := true }, kinds := [], alts := [], laidByText := true, laidKinds := [.handle], laidTests := true, laidLooks := .later }
def FrameBackCardSaid : Prop := Claim7.holds Tryd.pinned (.plain (OpenSpec.ofChange frameBackSpec)) frameBackCard

/-- THE TIED CARD OF 'switchyardkeep.FrameTags'. -/
def frameTagsCard : Claim7 := { stood := { row := frameTagsRow, standIns := [], harness := (true, "22129ced09f6a071d063048ffcc4e3b6635c352997ae70be4ba362a273b33538"), looks := true }, kinds := [], alts := [], laidByText := true, laidKinds := [.handle], laidTests := true, laidLooks := .later }
def FrameTagsCardSaid : Prop := Claim7.holds Tryd.pinned (.plain (OpenSpec.ofChange frameTagsSpec)) frameTagsCard

/-- THE TIED CARD OF 'switchyardkeep.FrameCut'. -/
def frameCutCard : Claim7 := { stood := { row := frameCutRow, standIns := [], harness := (true, "22129ced09f6a071d063048ffcc4e3b6635c352997ae70be4ba362a273b33538"), looks := true }, kinds := [], alts := [], laidByText := true, laidKinds := [.handle], laidTests := true, laidLooks := .later }
def FrameCutCardSaid : Prop := Claim7.holds Tryd.pinned (.plain (OpenSpec.ofChange frameCutSpec)) frameCutCard

/-- THE TIED CARD OF 'switchyardkeep.FrameTurned'. -/
def frameTurnedCard : Claim7 := { stood := { row := frameTurnedRow, standIns := [], harness := (true, "22129ced09f6a071d063048ffcc4e3b6635c352997ae70be4ba362a273b33538"), looks := true }, kinds := [], alts := [], laidByText := true, laidKinds := [.handle], laidTests := true, laidLooks := .later }
def FrameTurnedCardSaid : Prop := Claim7.holds Tryd.pinned (.plain (OpenSpec.ofChange frameTurnedSpec)) frameTurnedCard

/-- THE TIED CARD OF 'switchyardkeep.FramePads'. -/
def framePadsCard : Claim7 := { stood := { row := framePadsRow, standIns := [], harness := (true, "22129ced09f6a071d063048ffcc4e3b6635c352997ae70be4ba362a273b33538"), looks := true }, kinds := [], alts := [], laidByText := true, laidKinds := [.handle], laidTests := true, laidLooks := .later }
def FramePadsCardSaid : Prop := Claim7.holds Tryd.pinned (.plain (OpenSpec.ofChange framePadsSpec)) framePadsCard

/-- THE TIED CARD OF 'switchyardkeep.FrameOnly'. -/
def frameOnlyCard : Claim7 := { stood := { row := frameOnlyRow, standIns := [], harness := (true, "22129ced09f6a071d063048ffcc4e3b6635c352997ae70be4ba362a273b33538"), looks := true }, kinds := [], alts := [], laidByText := true, laidKinds := [.data, .handle, .pinned], laidTests := true, laidLooks := .later }
def FrameOnlyCardSaid : Prop := Claim7.holds Tryd.pinned (.plain (OpenSpec.ofChange frameOnlySpec)) frameOnlyCard

/-- THE TIED CARD OF 'switchyardkeep.LldpBack'. -/
def lldpBackCard : Claim7 := { stood := { row := lldpBackRow, standIns := [], harness := (true, "22129ced09f6a071d063048ffcc4e3b6635c352997ae70be4ba362a273b33538"), looks := true }, kinds := [], alts := [], laidByText := true, laidKinds := [.handle], laidTests := true, laidLooks := .later }
def LldpBackCardSaid : Prop := Claim7.holds Tryd.pinned (.plain (OpenSpec.ofChange lldpBackSpec)) lldpBackCard

/-- THE SECOND FORM's CARD OF 'switchyardkeep.MarkerBack'. -/
def markerBackUptoCard : Claim7 := { stood := { row := markerBackUptoRow, standIns := [], harness := (true, "22129ced09f6a071d063048ffcc4e3b6635c352997ae70be4ba362a273b33538"), looks := true }, kinds := [], alts := [], laidByText := true, laidKinds := [.handle], laidTests := true, laidLooks := .later }
def MarkerBackUptoCardSaid : Prop := Claim7.holds Tryd.pinned (.plain (OpenSpec.upto markerBackSpec)) markerBackUptoCard

/-- THE SECOND FORM's CARD OF 'switchyardkeep.MstpBack'. -/
def mstpBackUptoCard : Claim7 := { stood := { row := mstpBackUptoRow, standIns := [], harness := (true, "22129ced09f6a071d063048ffcc4e3b6635c352997ae70be4ba362a273b33538"), looks := true }, kinds := [], alts := [], laidByText := true, laidKinds := [.data, .handle, .pinned], laidTests := true, laidLooks := .later }
def MstpBackUptoCardSaid : Prop := Claim7.holds Tryd.pinned (.plain (OpenSpec.upto mstpBackSpec)) mstpBackUptoCard

/-- THE SECOND FORM's CARD OF 'switchyardkeep.MstpStill'. -/
def mstpStillUptoCard : Claim7 := { stood := { row := mstpStillUptoRow, standIns := [], harness := (true, "22129ced09f6a071d063048ffcc4e3b6635c352997ae70be4ba362a273b33538"), looks := true }, kinds := [], alts := [], laidByText := true, laidKinds := [.data, .pinned], laidTests := true, laidLooks := .later }
def MstpStillUptoCardSaid : Prop := Claim7.holds Tryd.pinned (.plain (OpenSpec.upto mstpStillSpec)) mstpStillUptoCard

/-- THE SECOND FORM's CARD OF 'switchyardkeep.FrameBack'. -/
def frameBackUptoCard : Claim7 := { stood := { row := frameBackUptoRow, standIns := [], harness := (true, "22129ced09f6a071d063048ffcc4e3b6635c352997ae70be4ba362a273b33538"), looks := true }, kinds := [], alts := [], laidByText := true, laidKinds := [.handle], laidTests := true, laidLooks := .later }
def FrameBackUptoCardSaid : Prop := Claim7.holds Tryd.pinned (.plain (OpenSpec.upto frameBackSpec)) frameBackUptoCard

/-- THE SECOND FORM's CARD OF 'switchyardkeep.FrameTags'. -/
def frameTagsUptoCard : Claim7 := { stood := { row := frameTagsUptoRow, standIns := [], harness := (true, "22129ced09f6a071d063048ffcc4e3b6635c352997ae70be4ba362a273b33538"), looks := true }, kinds := [], alts := [], laidByText := true, laidKinds := [.handle], laidTests := true, laidLooks := .later }
def FrameTagsUptoCardSaid : Prop := Claim7.holds Tryd.pinned (.plain (OpenSpec.upto frameTagsSpec)) frameTagsUptoCard

/-- THE SECOND FORM's CARD OF 'switchyardkeep.FrameCut'. -/
def frameCutUptoCard : Claim7 := { stood := { row := frameCutUptoRow, standIns := [], harness := (true, "22129ced09f6a071d063048ffcc4e3b6635c352997ae70be4ba362a273b33538"), looks := true }, kinds := [], alts := [], laidByText := true, laidKinds := [.handle], laidTests := true, laidLooks := .later }
def FrameCutUptoCardSaid : Prop := Claim7.holds Tryd.pinned (.plain (OpenSpec.upto frameCutSpec)) frameCutUptoCard

/-- THE SECOND FORM's CARD OF 'switchyardkeep.FrameTurned'. -/
def frameTurnedUptoCard : Claim7 := { stood := { row := frameTurnedUptoRow, standIns := [], harness := (true, "22129ced09f6a071d063048ffcc4e3b6635c352997ae70be4ba362a273b33538"), looks := true }, kinds := [], alts := [], laidByText := true, laidKinds := [.handle], laidTests := true, laidLooks := .later }
def FrameTurnedUptoCardSaid : Prop := Claim7.holds Tryd.pinned (.plain (OpenSpec.upto frameTurnedSpec)) frameTurnedUptoCard

/-- THE SECOND FORM's CARD OF 'switchyardkeep.FramePads'. -/
def framePadsUptoCard : Claim7 := { stood := { row := framePadsUptoRow, standIns := [], harness := (true, "22129ced09f6a071d063048ffcc4e3b6635c352997ae70be4ba362a273b33538"), looks := true }, kinds := [], alts := [], laidByText := true, laidKinds := [.handle], laidTests := true, laidLooks := .later }
def FramePadsUptoCardSaid : Prop := Claim7.holds Tryd.pinned (.plain (OpenSpec.upto framePadsSpec)) framePadsUptoCard

/-- THE SECOND FORM's CARD OF 'switchyardkeep.FrameOnly'. -/
def frameOnlyUptoCard : Claim7 := { stood := { row := frameOnlyUptoRow, standIns := [], harness := (true, "22129ced09f6a071d063048ffcc4e3b6635c352997ae70be4ba362a273b33538"), looks := true }, kinds := [], alts := [], laidByText := true, laidKinds := [.data, .handle, .pinned], laidTests := true, laidLooks := .later }
def FrameOnlyUptoCardSaid : Prop := Claim7.holds Tryd.pinned (.plain (OpenSpec.upto frameOnlySpec)) frameOnlyUptoCard

/-- THE SECOND FORM's CARD OF 'switchyardkeep.LldpBack'. -/
def lldpBackUptoCard : Claim7 := { stood := { row := lldpBackUptoRow, standIns := [], harness := (true, "22129ced09f6a071d063048ffcc4e3b6635c352997ae70be4ba362a273b33538"), looks := true }, kinds := [], alts := [], laidByText := true, laidKinds := [.handle], laidTests := true, laidLooks := .later }
def LldpBackUptoCardSaid : Prop := Claim7.holds Tryd.pinned (.plain (OpenSpec.upto lldpBackSpec)) lldpBackUptoCard
end Rows
end Go.Proofs.YteibhcocldihbaaDoor
