/-
  DERIVED. GIVEN WITH THE SEED: THE CARDS: each row of YtoenlcmngdpkmaaDoorRows.lean that lists a variable, with what it lists TIED to the program's text (the seventh form; the later family's looks); each row that meets fmt, with fmt's text TOLD by the authors' own Lean function (tested against real Go, not proved from fmt's source: count such statements apart). THE CARD IS WHAT COUNTS. Prove the row's statement (the work); the ties are given (YtoenlcmngdpkmaaDoorTie.lean); close each card by the builder's one call (the guide's Derived/Test/ToyasCard.lean, 'card_holds'). Laid BY PROGRAM, IN A SANDBOX (cutbox-door.mjs). By AI agents, Wed Nov 11 2026. No macro, syntax, notation, axiom, sorry.
-/
import Derived.Test.YtoenlcmngdpkmaaDoorRows
import GoSem.ClaimSeven
namespace Go.Proofs.YtoenlcmngdpkmaaDoor
namespace Rows

/-- THE TIED CARD OF 'switchyardkeep.LearnTime'. -/
def learnTimeCard : Claim7 := { stood := { row := learnTimeRow, standIns := [], harness := (true, "1bc7d2a332c4c20427bd1fe99395279bebf888547a14c1278f03be643640d8ff"), looks := true }, kinds := [], alts := [], laidByText := true, laidKinds := [.handle], laidTests := true, laidLooks := .later }
def LearnTimeCardSaid : Prop := Claim7.holds Tryd.pinned (.plain (OpenSpec.ofChange learnTimeSpec)) learnTimeCard

/-- THE SECOND FORM's CARD OF 'switchyardkeep.LearnTime'. -/
def learnTimeUptoCard : Claim7 := { stood := { row := learnTimeUptoRow, standIns := [], harness := (true, "1bc7d2a332c4c20427bd1fe99395279bebf888547a14c1278f03be643640d8ff"), looks := true }, kinds := [], alts := [], laidByText := true, laidKinds := [.handle], laidTests := true, laidLooks := .later }
def LearnTimeUptoCardSaid : Prop := Claim7.holds Tryd.pinned (.plain (OpenSpec.upto learnTimeSpec)) learnTimeUptoCard
end Rows
end Go.Proofs.YtoenlcmngdpkmaaDoor
