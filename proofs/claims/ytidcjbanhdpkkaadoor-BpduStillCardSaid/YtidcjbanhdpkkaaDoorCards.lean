/-
  DERIVED. GIVEN WITH THE SEED: THE CARDS: each row of YtidcjbanhdpkkaaDoorRows.lean that lists a variable, with what it lists TIED to the program's text (the seventh form; the later family's looks); each row that meets fmt, with fmt's text TOLD by the authors' own Lean function (tested against real Go, not proved from fmt's source: count such statements apart). THE CARD IS WHAT COUNTS. Prove the row's statement (the work); the ties are given (YtidcjbanhdpkkaaDoorTie.lean); close each card by the builder's one call (the guide's Derived/Test/ToyasCard.lean, 'card_holds'). Laid BY PROGRAM, IN A SANDBOX (cutbox-door.mjs). By AI agents, Wed Nov 11 2026. No macro, syntax, notation, axiom, sorry.
-/
import Derived.Test.YtidcjbanhdpkkaaDoorRows
import GoSem.ClaimSeven
namespace Go.Proofs.YtidcjbanhdpkkaaDoor
namespace Rows

/-- THE TIED CARD OF 'switchyardkeep.ArpReply'. -/
def arpReplyCard : Claim7 := { stood := { row := arpReplyRow, standIns := [], harness := (true, "cff40d4b733aea8366ebb70370982deb20f138d5a89a5495243f7614b390f22d"), looks := true }, kinds := [], alts := [], laidByText := true, laidKinds := [.handle], laidTests := true, laidLooks := .later }
def ArpReplyCardSaid : Prop := Claim7.holds Tryd.pinned (.plain (OpenSpec.ofChange arpReplySpec)) arpReplyCard

/-- THE TIED CARD OF 'switchyardkeep.BpduBack'. -/
def bpduBackCard : Claim7 := { stood := { row := bpduBackRow, standIns := [], harness := (true, "cff40d4b733aea8366ebb70370982deb20f138d5a89a5495243f7614b390f22d"), looks := true }, kinds := [], alts := [], laidByText := true, laidKinds := [.handle], laidTests := true, laidLooks := .later }
def BpduBackCardSaid : Prop := Claim7.holds Tryd.pinned (.plain (OpenSpec.ofChange bpduBackSpec)) bpduBackCard

/-- THE TIED CARD OF 'switchyardkeep.BpduStill'. -/
def bpduStillCard : Claim7 := { stood := { row := bpduStillRow, standIns := [], harness := (true, "cff40d4b733aea8366ebb70370982deb20f138d5a89a5495243f7614b390f22d"), looks := true }, kinds := [], alts := [], laidByText := true, laidKinds := [.handle], laidTests := true, laidLooks := .later }
def BpduStillCardSaid : Prop := Claim7.holds Tryd.pinned (.plain (OpenSpec.ofChange bpduStillSpec)) bpduStillCard

/-- THE TIED CARD OF 'switchyardkeep.ArpBack'. -/
def arpBackCard : Claim7 := { stood := { row := arpBackRow, standIns := [], harness := (true, "cff40d4b733aea8366ebb70370982deb20f138d5a89a5495243f7614b390f22d"), looks := true }, kinds := [], alts := [], laidByText := true, laidKinds := [.data, .pinned], laidTests := true, laidLooks := .later }
def ArpBackCardSaid : Prop := Claim7.holds Tryd.pinned (.plain (OpenSpec.ofChange arpBackSpec)) arpBackCard

/-- THE TIED CARD OF 'switchyardkeep.PauseBack'. -/
def pauseBackCard : Claim7 := { stood := { row := pauseBackRow, standIns := [], harness := (true, "cff40d4b733aea8366ebb70370982deb20f138d5a89a5495243f7614b390f22d"), looks := true }, kinds := [], alts := [], laidByText := true, laidKinds := [.data, .pinned], laidTests := true, laidLooks := .later }
def PauseBackCardSaid : Prop := Claim7.holds Tryd.pinned (.plain (OpenSpec.ofChange pauseBackSpec)) pauseBackCard

/-- THE TIED CARD OF 'switchyardkeep.LacpBack'. -/
def lacpBackCard : Claim7 := { stood := { row := lacpBackRow, standIns := [], harness := (true, "cff40d4b733aea8366ebb70370982deb20f138d5a89a5495243f7614b390f22d"), looks := true }, kinds := [], alts := [], laidByText := true, laidKinds := [.handle], laidTests := true, laidLooks := .later }
def LacpBackCardSaid : Prop := Claim7.holds Tryd.pinned (.plain (OpenSpec.ofChange lacpBackSpec)) lacpBackCard

/-- THE SECOND FORM's CARD OF 'switchyardkeep.ArpReply'. -/
def arpReplyUptoCard : Claim7 := { stood := { row := arpReplyUptoRow, standIns := [], harness := (true, "cff40d4b733aea8366ebb70370982deb20f138d5a89a5495243f7614b390f22d"), looks := true }, kinds := [], alts := [], laidByText := true, laidKinds := [.handle], laidTests := true, laidLooks := .later }
def ArpReplyUptoCardSaid : Prop := Claim7.holds Tryd.pinned (.plain (OpenSpec.upto arpReplySpec)) arpReplyUptoCard

/-- THE SECOND FORM's CARD OF 'switchyardkeep.BpduBack'. -/
def bpduBackUptoCard : Claim7 := { stood := { row := bpduBackUptoRow, standIns := [], harness := (true, "cff40d4b733aea8366ebb70370982deb20f138d5a89a5495243f7614b390f22d"), looks := true }, kinds := [], alts := [], laidByText := true, laidKinds := [.handle], laidTests := true, laidLooks := .later }
def BpduBackUptoCardSaid : Prop := Claim7.holds Tryd.pinned (.plain (OpenSpec.upto bpduBackSpec)) bpduBackUptoCard

/-- THE SECOND FORM's CARD OF 'switchyardkeep.BpduStill'. -/
def bpduStillUptoCard : Claim7 := { stood := { row := bpduStillUptoRow, standIns := [], harness := (true, "cff40d4b733aea8366ebb70370982deb20f138d5a89a5495243f7614b390f22d"), looks := true }, kinds := [], alts := [], laidByText := true, laidKinds := [.handle], laidTests := true, laidLooks := .later }
def BpduStillUptoCardSaid : Prop := Claim7.holds Tryd.pinned (.plain (OpenSpec.upto bpduStillSpec)) bpduStillUptoCard

/-- THE SECOND FORM's CARD OF 'switchyardkeep.ArpBack'. -/
def arpBackUptoCard : Claim7 := { stood := { row := arpBackUptoRow, standIns := [], harness := (true, "cff40d4b733aea8366ebb70370982deb20f138d5a89a5495243f7614b390f22d"), looks := true }, kinds := [], alts := [], laidByText := true, laidKinds := [.data, .pinned], laidTests := true, laidLooks := .later }
def ArpBackUptoCardSaid : Prop := Claim7.holds Tryd.pinned (.plain (OpenSpec.upto arpBackSpec)) arpBackUptoCard

/-- THE SECOND FORM's CARD OF 'switchyardkeep.PauseBack'. -/
def pauseBackUptoCard : Claim7 := { stood := { row := pauseBackUptoRow, standIns := [], harness := (true, "cff40d4b733aea8366ebb70370982deb20f138d5a89a5495243f7614b390f22d"), looks := true }, kinds := [], alts := [], laidByText := true, laidKinds := [.data, .pinned], laidTests := true, laidLooks := .later }
def PauseBackUptoCardSaid : Prop := Claim7.holds Tryd.pinned (.plain (OpenSpec.upto pauseBackSpec)) pauseBackUptoCard

/-- THE SECOND FORM's CARD OF 'switchyardkeep.LacpBack'. -/
def lacpBackUptoCard : Claim7 := { stood := { row := lacpBackUptoRow, standIns := [], harness := (true, "cff40d4b733aea8366ebb70370982deb20f138d5a89a5495243f7614b390f22d"), looks := true }, kinds := [], alts := [], laidByText := true, laidKinds := [.handle], laidTests := true, laidLooks := .later }
def LacpBackUptoCardSaid : Prop := Claim7.holds Tryd.pinned (.plain (OpenSpec.upto lacpBackSpec)) lacpBackUptoCard
end Rows
end Go.Proofs.YtidcjbanhdpkkaaDoor
