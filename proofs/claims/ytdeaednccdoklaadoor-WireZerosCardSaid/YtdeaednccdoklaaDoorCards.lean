/-
  DERIVED. GIVEN WITH THE SEED: THE CARDS: each row of YtdeaednccdoklaaDoorRows.lean that lists a variable, with what it lists TIED to the program's text (the seventh form; the later family's looks); each row that meets fmt, with fmt's text TOLD by the authors' own Lean function (tested against real Go, not proved from fmt's source: count such statements apart). THE CARD IS WHAT COUNTS. Prove the row's statement (the work); the ties are given (YtdeaednccdoklaaDoorTie.lean); close each card by the builder's one call (the guide's Derived/Test/ToyasCard.lean, 'card_holds'). Laid BY PROGRAM, IN A SANDBOX (cutbox-door.mjs). By AI agents, Wed Nov 11 2026. No macro, syntax, notation, axiom, sorry.
-/
import Derived.Test.YtdeaednccdoklaaDoorRows
import GoSem.ClaimSeven
namespace Go.Proofs.YtdeaednccdoklaaDoor
namespace Rows

/-- THE TIED CARD OF 'switchyardkeep.WireBack'. -/
def wireBackCard : Claim7 := { stood := { row := wireBackRow, standIns := [], harness := (true, "ccab1b6c90a7fd465f24907a57b57d2e6706b82be38b9f80e4e058b5c5c68d9e"), looks := true }, kinds := [], alts := [], laidByText := true, laidKinds := [.handle], laidTests := true, laidLooks := .later }
def WireBackCardSaid : Prop := Claim7.holds Tryd.pinned (.plain (OpenSpec.ofChange wireBackSpec)) wireBackCard

/-- THE TIED CARD OF 'switchyardkeep.WireSubs'. -/
def wireSubsCard : Claim7 := { stood := { row := wireSubsRow, standIns := [], harness := (true, "ccab1b6c90a7fd465f24907a57b57d2e6706b82be38b9f80e4e058b5c5c68d9e"), looks := true }, kinds := [], alts := [], laidByText := true, laidKinds := [.handle], laidTests := true, laidLooks := .later }
def WireSubsCardSaid : Prop := Claim7.holds Tryd.pinned (.plain (OpenSpec.ofChange wireSubsSpec)) wireSubsCard

/-- THE TIED CARD OF 'switchyardkeep.WireStops'. -/
def wireStopsCard : Claim7 := { stood := { row := wireStopsRow, standIns := [], harness := (true, "ccab1b6c90a7fd465f24907a57b57d2e6706b82be38b9f80e4e058b5c5c68d9e"), looks := true }, kinds := [], alts := [], laidByText := true, laidKinds := [.handle], laidTests := true, laidLooks := .later }
def WireStopsCardSaid : Prop := Claim7.holds Tryd.pinned (.plain (OpenSpec.ofChange wireStopsSpec)) wireStopsCard

/-- THE TIED CARD OF 'switchyardkeep.WireZeros'. -/
def wireZerosCard : Claim7 := { stood := { row := wireZerosRow, standIns := [], harness := (true, "ccab1b6c90a7fd465f24907a57b57d2e6706b82be38b9f80e4e058b5c5c68d9e"), looks := true }, kinds := [], alts := [], laidByText := true, laidKinds := [.data, .handle, .pinned], laidTests := true, laidLooks := .later }
def WireZerosCardSaid : Prop := Claim7.holds Tryd.pinned (.plain (OpenSpec.ofChange wireZerosSpec)) wireZerosCard

/-- THE SECOND FORM's CARD OF 'switchyardkeep.WireBack'. -/
def wireBackUptoCard : Claim7 := { stood := { row := wireBackUptoRow, standIns := [], harness := (true, "ccab1b6c90a7fd465f24907a57b57d2e6706b82be38b9f80e4e058b5c5c68d9e"), looks := true }, kinds := [], alts := [], laidByText := true, laidKinds := [.handle], laidTests := true, laidLooks := .later }
def WireBackUptoCardSaid : Prop := Claim7.holds Tryd.pinned (.plain (OpenSpec.upto wireBackSpec)) wireBackUptoCard

/-- THE SECOND FORM's CARD OF 'switchyardkeep.WireSubs'. -/
def wireSubsUptoCard : Claim7 := { stood := { row := wireSubsUptoRow, standIns := [], harness := (true, "ccab1b6c90a7fd465f24907a57b57d2e6706b82be38b9f80e4e058b5c5c68d9e"), looks := true }, kinds := [], alts := [], laidByText := true, laidKinds := [.handle], laidTests := true, laidLooks := .later }
def WireSubsUptoCardSaid : Prop := Claim7.holds Tryd.pinned (.plain (OpenSpec.upto wireSubsSpec)) wireSubsUptoCard

/-- THE SECOND FORM's CARD OF 'switchyardkeep.WireStops'. -/
def wireStopsUptoCard : Claim7 := { stood := { row := wireStopsUptoRow, standIns := [], harness := (true, "ccab1b6c90a7fd465f24907a57b57d2e6706b82be38b9f80e4e058b5c5c68d9e"), looks := true }, kinds := [], alts := [], laidByText := true, laidKinds := [.handle], laidTests := true, laidLooks := .later }
def WireStopsUptoCardSaid : Prop := Claim7.holds Tryd.pinned (.plain (OpenSpec.upto wireStopsSpec)) wireStopsUptoCard

/-- THE SECOND FORM's CARD OF 'switchyardkeep.WireZeros'. -/
def wireZerosUptoCard : Claim7 := { stood := { row := wireZerosUptoRow, standIns := [], harness := (true, "ccab1b6c90a7fd465f24907a57b57d2e6706b82be38b9f80e4e058b5c5c68d9e"), looks := true }, kinds := [], alts := [], laidByText := true, laidKinds := [.data, .handle, .pinned], laidTests := true, laidLooks := .later }
def WireZerosUptoCardSaid : Prop := Claim7.holds Tryd.pinned (.plain (OpenSpec.upto wireZerosSpec)) wireZerosUptoCard
end Rows
end Go.Proofs.YtdeaednccdoklaaDoor
