/-
  DERIVED. GIVEN WITH THE SEED: THE CARDS: each row of YtjekdodboihfhaaDoorRows.lean that lists a variable, with what it lists TIED to the program's text (the seventh form; the later family's looks); each row that meets fmt, with fmt's text TOLD by the authors' own Lean function (tested against real Go, not proved from fmt's source: count such statements apart). THE CARD IS WHAT COUNTS. Prove the row's statement (the work); the ties are given (YtjekdodboihfhaaDoorTie.lean); close each card by the builder's one call (the guide's Derived/Test/ToyasCard.lean, 'card_holds'). Laid BY PROGRAM, IN A SANDBOX (cutbox-door.mjs). By AI agents, Wed Nov 11 2026. No macro, syntax, notation, axiom, sorry.
-/
import Derived.Test.YtjekdodboihfhaaDoorRows
import GoSem.ClaimSeven
namespace Go.Proofs.YtjekdodboihfhaaDoor
namespace Rows

/-- THE TIED CARD OF 'switchyardkeep.MvrpCut'. -/
def mvrpCutCard : Claim7 := { stood := { row := mvrpCutRow, standIns := [], harness := (true, "926e99aedbaa7427a0755f3cc7e668f27d5cf9161e676b986bbd7a5a2a3395b5"), looks := true }, kinds := [], alts := [], laidByText := true, laidKinds := [.handle], laidTests := true, laidLooks := .later }
def MvrpCutCardSaid : Prop := Claim7.holds Tryd.pinned (.plain (OpenSpec.ofChange mvrpCutSpec)) mvrpCutCard

/-- THE TIED CARD OF 'switchyardkeep.MvrpFewest'. -/
def mvrpFewestCard : Claim7 := { stood := { row := mvrpFewestRow, standIns := [], harness := (true, "926e99aedbaa7427a0755f3cc7e668f27d5cf9161e676b986bbd7a5a2a3395b5"), looks := true }, kinds := [], alts := [], laidByText := true, laidKinds := [.handle], laidTests := true, laidLooks := .later }
def MvrpFewestCardSaid : Prop := Claim7.holds Tryd.pinned (.plain (OpenSpec.ofChange mvrpFewestSpec)) mvrpFewestCard

/-- THE SECOND FORM's CARD OF 'switchyardkeep.MvrpCut'. -/
def mvrpCutUptoCard : Claim7 := { stood := { row := mvrpCutUptoRow, standIns := [], harness := (true, "926e99aedbaa7427a0755f3cc7e668f27d5cf9161e676b986bbd7a5a2a3395b5"), looks := true }, kinds := [], alts := [], laidByText := true, laidKinds := [.handle], laidTests := true, laidLooks := .later }
def MvrpCutUptoCardSaid : Prop := Claim7.holds Tryd.pinned (.plain (OpenSpec.upto mvrpCutSpec)) mvrpCutUptoCard

/-- THE SECOND FORM's CARD OF 'switchyardkeep.MvrpFewest'. -/
def mvrpFewestUptoCard : Claim7 := { stood := { row := mvrpFewestUptoRow, standIns := [], harness := (true, "926e99aedbaa7427a0755f3cc7e668f27d5cf9161e676b986bbd7a5a2a3395b5"), looks := true }, kinds := [], alts := [], laidByText := true, laidKinds := [.handle], laidTests := true, laidLooks := .later }
def MvrpFewestUptoCardSaid : Prop := Claim7.holds Tryd.pinned (.plain (OpenSpec.upto mvrpFewestSpec)) mvrpFewestUptoCard
end Rows
end Go.Proofs.YtjekdodboihfhaaDoor
