/-
  DERIVED. GIVEN WITH THE SEED: THE CARDS: each row of YtkicbabfgahmkaaDoorRows.lean that lists a variable, with what it lists TIED to the program's text (the seventh form; the later family's looks); each row that meets fmt, with fmt's text TOLD by the authors' own Lean function (tested against real Go, not proved from fmt's source: count such statements apart). THE CARD IS WHAT COUNTS. Prove the row's statement (the work); the ties are given (YtkicbabfgahmkaaDoorTie.lean); close each card by the builder's one call (the guide's Derived/Test/ToyasCard.lean, 'card_holds'). Laid BY PROGRAM, IN A SANDBOX (cutbox-door.mjs). By AI agents, Wed Nov 11 2026. No macro, syntax, notation, axiom, sorry.
-/
import Derived.Test.YtkicbabfgahmkaaDoorRows
import GoSem.ClaimSeven
namespace Go.Proofs.YtkicbabfgahmkaaDoor
namespace Rows

/-- THE TIED CARD OF 'switchyardkeep.MacBack'. -/
def macBackCard : Claim7 := { stood := { row := macBackRow, standIns := [], harness := (true, "85d2ad4d83ecbb7ca8808c45870ae6793bce08017d795310923f513ed85d5460"), looks := true }, kinds := [], alts := [], laidByText := true, laidKinds := [.data, .pinned], laidTests := true, laidLooks := .later }
def MacBackCardSaid : Prop := Claim7.holds Tryd.pinned (.plain (OpenSpec.ofChange macBackSpec)) macBackCard

/-- THE TIED CARD OF 'switchyardkeep.MacReserved'. -/
def macReservedCard : Claim7 := { stood := { row := macReservedRow, standIns := [], harness := (true, "85d2ad4d83ecbb7ca8808c45870ae6793bce08017d795310923f513ed85d5460"), looks := true }, kinds := [], alts := [], laidByText := true, laidKinds := [.data, .pinned], laidTests := true, laidLooks := .later }
def MacReservedCardSaid : Prop := Claim7.holds Tryd.pinned (.plain (OpenSpec.ofChange macReservedSpec)) macReservedCard

/-- THE TIED CARD OF 'switchyardkeep.MacOrder'. -/
def macOrderCard : Claim7 := { stood := { row := macOrderRow, standIns := [], harness := (true, "85d2ad4d83ecbb7ca8808c45870ae6793bce08017d795310923f513ed85d5460"), looks := true }, kinds := [], alts := [], laidByText := true, laidKinds := [.data, .pinned], laidTests := true, laidLooks := .later }
def MacOrderCardSaid : Prop := Claim7.holds Tryd.pinned (.plain (OpenSpec.ofChange macOrderSpec)) macOrderCard

/-- THE TIED CARD OF 'switchyardkeep.TagBack'. -/
def tagBackCard : Claim7 := { stood := { row := tagBackRow, standIns := [], harness := (true, "85d2ad4d83ecbb7ca8808c45870ae6793bce08017d795310923f513ed85d5460"), looks := true }, kinds := [], alts := [], laidByText := true, laidKinds := [.data, .data, .data, .sentinel, .sentinel], laidTests := true, laidLooks := .later }
def TagBackCardSaid : Prop := Claim7.holds Tryd.pinned (.plain (OpenSpec.ofChange tagBackSpec)) tagBackCard

/-- THE TIED CARD OF 'switchyardkeep.TagOnly'. -/
def tagOnlyCard : Claim7 := { stood := { row := tagOnlyRow, standIns := [], harness := (true, "85d2ad4d83ecbb7ca8808c45870ae6793bce08017d795310923f513ed85d5460"), looks := true }, kinds := [], alts := [], laidByText := true, laidKinds := [.data, .data, .data, .sentinel, .sentinel], laidTests := true, laidLooks := .later }
def TagOnlyCardSaid : Prop := Claim7.holds Tryd.pinned (.plain (OpenSpec.ofChange tagOnlySpec)) tagOnlyCard

/-- THE TIED CARD OF 'switchyardkeep.TagInner'. -/
def tagInnerCard : Claim7 := { stood := { row := tagInnerRow, standIns := [], harness := (true, "85d2ad4d83ecbb7ca8808c45870ae6793bce08017d795310923f513ed85d5460"), looks := true }, kinds := [], alts := [], laidByText := true, laidKinds := [.data, .data, .data, .sentinel, .sentinel], laidTests := true, laidLooks := .later }
def TagInnerCardSaid : Prop := Claim7.holds Tryd.pinned (.plain (OpenSpec.ofChange tagInnerSpec)) tagInnerCard

/-- THE TIED CARD OF 'switchyardkeep.PrioBack'. -/
def prioBackCard : Claim7 := { stood := { row := prioBackRow, standIns := [], harness := (true, "85d2ad4d83ecbb7ca8808c45870ae6793bce08017d795310923f513ed85d5460"), looks := true }, kinds := [], alts := [], laidByText := true, laidKinds := [.data, .data, .data, .data, .sentinel, .sentinel, .pinned], laidTests := true, laidLooks := .later }
def PrioBackCardSaid : Prop := Claim7.holds Tryd.pinned (.plain (OpenSpec.ofChange prioBackSpec)) prioBackCard

/-- THE TIED CARD OF 'switchyardkeep.PrioPacked'. -/
def prioPackedCard : Claim7 := { stood := { row := prioPackedRow, standIns := [], harness := (true, "85d2ad4d83ecbb7ca8808c45870ae6793bce08017d795310923f513ed85d5460"), looks := true }, kinds := [], alts := [], laidByText := true, laidKinds := [.data, .data, .data, .data, .sentinel, .sentinel, .pinned], laidTests := true, laidLooks := .later }
def PrioPackedCardSaid : Prop := Claim7.holds Tryd.pinned (.plain (OpenSpec.ofChange prioPackedSpec)) prioPackedCard

/-- THE TIED CARD OF 'switchyardkeep.PrioLine'. -/
def prioLineCard : Claim7 := { stood := { row := prioLineRow, standIns := [], harness := (true, "85d2ad4d83ecbb7ca8808c45870ae6793bce08017d795310923f513ed85d5460"), looks := true }, kinds := [], alts := [], laidByText := true, laidKinds := [.data, .data, .data, .data, .sentinel, .sentinel, .pinned], laidTests := true, laidLooks := .later }
def PrioLineCardSaid : Prop := Claim7.holds Tryd.pinned (.plain (OpenSpec.ofChange prioLineSpec)) prioLineCard

/-- THE TIED CARD OF 'switchyardkeep.PrioFirst'. -/
def prioFirstCard : Claim7 := { stood := { row := prioFirstRow, standIns := [], harness := (true, "85d2ad4d83ecbb7ca8808c45870ae6793bce08017d795310923f513ed85d5460"), looks := true }, kinds := [], alts := [], laidByText := true, laidKinds := [.data, .data, .data, .data, .sentinel, .sentinel, .pinned], laidTests := true, laidLooks := .later }
def PrioFirstCardSaid : Prop := Claim7.holds Tryd.pinned (.plain (OpenSpec.ofChange prioFirstSpec)) prioFirstCard

/-- THE TIED CARD OF 'switchyardkeep.PrioTop'. -/
def prioTopCard : Claim7 := { stood := { row := prioTopRow, standIns := [], harness := (true, "85d2ad4d83ecbb7ca8808c45870ae6793bce08017d795310923f513ed85d5460"), looks := true }, kinds := [], alts := [], laidByText := true, laidKinds := [.data, .data, .data, .data, .sentinel, .sentinel, .pinned], laidTests := true, laidLooks := .later }
def PrioTopCardSaid : Prop := Claim7.holds Tryd.pinned (.plain (OpenSpec.ofChange prioTopSpec)) prioTopCard

/-- THE SECOND FORM's CARD OF 'switchyardkeep.MacBack'. -/
def macBackUptoCard : Claim7 := { stood := { row := macBackUptoRow, standIns := [], harness := (true, "85d2ad4d83ecbb7ca8808c45870ae6793bce08017d795310923f513ed85d5460"), looks := true }, kinds := [], alts := [], laidByText := true, laidKinds := [.data, .pinned], laidTests := true, laidLooks := .later }
def MacBackUptoCardSaid : Prop := Claim7.holds Tryd.pinned (.plain (OpenSpec.upto macBackSpec)) macBackUptoCard

/-- THE SECOND FORM's CARD OF 'switchyardkeep.MacReserved'. -/
def macReservedUptoCard : Claim7 := { stood := { row := macReservedUptoRow, standIns := [], harness := (true, "85d2ad4d83ecbb7ca8808c45870ae6793bce08017d795310923f513ed85d5460"), looks := true }, kinds := [], alts := [], laidByText := true, laidKinds := [.data, .pinned], laidTests := true, laidLooks := .later }
def MacReservedUptoCardSaid : Prop := Claim7.holds Tryd.pinned (.plain (OpenSpec.upto macReservedSpec)) macReservedUptoCard

/-- THE SECOND FORM's CARD OF 'switchyardkeep.MacOrder'. -/
def macOrderUptoCard : Claim7 := { stood := { row := macOrderUptoRow, standIns := [], harness := (true, "85d2ad4d83ecbb7ca8808c45870ae6793bce08017d795310923f513ed85d5460"), looks := true }, kinds := [], alts := [], laidByText := true, laidKinds := [.data, .pinned], laidTests := true, laidLooks := .later }
def MacOrderUptoCardSaid : Prop := Claim7.holds Tryd.pinned (.plain (OpenSpec.upto macOrderSpec)) macOrderUptoCard

/-- THE SECOND FORM's CARD OF 'switchyardkeep.TagBack'. -/
def tagBackUptoCard : Claim7 := { stood := { row := tagBackUptoRow, standIns := [], harness := (true, "85d2ad4d83ecbb7ca8808c45870ae6793bce08017d795310923f513ed85d5460"), looks := true }, kinds := [], alts := [], laidByText := true, laidKinds := [.data, .data, .data, .sentinel, .sentinel], laidTests := true, laidLooks := .later }
def TagBackUptoCardSaid : Prop := Claim7.holds Tryd.pinned (.plain (OpenSpec.upto tagBackSpec)) tagBackUptoCard

/-- THE SECOND FORM's CARD OF 'switchyardkeep.TagOnly'. -/
def tagOnlyUptoCard : Claim7 := { stood := { row := tagOnlyUptoRow, standIns := [], harness := (true, "85d2ad4d83ecbb7ca8808c45870ae6793bce08017d795310923f513ed85d5460"), looks := true }, kinds := [], alts := [], laidByText := true, laidKinds := [.data, .data, .data, .sentinel, .sentinel], laidTests := true, laidLooks := .later }
def TagOnlyUptoCardSaid : Prop := Claim7.holds Tryd.pinned (.plain (OpenSpec.upto tagOnlySpec)) tagOnlyUptoCard

/-- THE SECOND FORM's CARD OF 'switchyardkeep.TagInner'. -/
def tagInnerUptoCard : Claim7 := { stood := { row := tagInnerUptoRow, standIns := [], harness := (true, "85d2ad4d83ecbb7ca8808c45870ae6793bce08017d795310923f513ed85d5460"), looks := true }, kinds := [], alts := [], laidByText := true, laidKinds := [.data, .data, .data, .sentinel, .sentinel], laidTests := true, laidLooks := .later }
def TagInnerUptoCardSaid : Prop := Claim7.holds Tryd.pinned (.plain (OpenSpec.upto tagInnerSpec)) tagInnerUptoCard

/-- THE SECOND FORM's CARD OF 'switchyardkeep.PrioBack'. -/
def prioBackUptoCard : Claim7 := { stood := { row := prioBackUptoRow, standIns := [], harness := (true, "85d2ad4d83ecbb7ca8808c45870ae6793bce08017d795310923f513ed85d5460"), looks := true }, kinds := [], alts := [], laidByText := true, laidKinds := [.data, .data, .data, .data, .sentinel, .sentinel, .pinned], laidTests := true, laidLooks := .later }
def PrioBackUptoCardSaid : Prop := Claim7.holds Tryd.pinned (.plain (OpenSpec.upto prioBackSpec)) prioBackUptoCard

/-- THE SECOND FORM's CARD OF 'switchyardkeep.PrioPacked'. -/
def prioPackedUptoCard : Claim7 := { stood := { row := prioPackedUptoRow, standIns := [], harness := (true, "85d2ad4d83ecbb7ca8808c45870ae6793bce08017d795310923f513ed85d5460"), looks := true }, kinds := [], alts := [], laidByText := true, laidKinds := [.data, .data, .data, .data, .sentinel, .sentinel, .pinned], laidTests := true, laidLooks := .later }
def PrioPackedUptoCardSaid : Prop := Claim7.holds Tryd.pinned (.plain (OpenSpec.upto prioPackedSpec)) prioPackedUptoCard

/-- THE SECOND FORM's CARD OF 'switchyardkeep.PrioLine'. -/
def prioLineUptoCard : Claim7 := { stood := { row := prioLineUptoRow, standIns := [], harness := (true, "85d2ad4d83ecbb7ca8808c45870ae6793bce08017d795310923f513ed85d5460"), looks := true }, kinds := [], alts := [], laidByText := true, laidKinds := [.data, .data, .data, .data, .sentinel, .sentinel, .pinned], laidTests := true, laidLooks := .later }
def PrioLineUptoCardSaid : Prop := Claim7.holds Tryd.pinned (.plain (OpenSpec.upto prioLineSpec)) prioLineUptoCard

/-- THE SECOND FORM's CARD OF 'switchyardkeep.PrioFirst'. -/
def prioFirstUptoCard : Claim7 := { stood := { row := prioFirstUptoRow, standIns := [], harness := (true, "85d2ad4d83ecbb7ca8808c45870ae6793bce08017d795310923f513ed85d5460"), looks := true }, kinds := [], alts := [], laidByText := true, laidKinds := [.data, .data, .data, .data, .sentinel, .sentinel, .pinned], laidTests := true, laidLooks := .later }
def PrioFirstUptoCardSaid : Prop := Claim7.holds Tryd.pinned (.plain (OpenSpec.upto prioFirstSpec)) prioFirstUptoCard

/-- THE SECOND FORM's CARD OF 'switchyardkeep.PrioTop'. -/
def prioTopUptoCard : Claim7 := { stood := { row := prioTopUptoRow, standIns := [], harness := (true, "85d2ad4d83ecbb7ca8808c45870ae6793bce08017d795310923f513ed85d5460"), looks := true }, kinds := [], alts := [], laidByText := true, laidKinds := [.data, .data, .data, .data, .sentinel, .sentinel, .pinned], laidTests := true, laidLooks := .later }
def PrioTopUptoCardSaid : Prop := Claim7.holds Tryd.pinned (.plain (OpenSpec.upto prioTopSpec)) prioTopUptoCard
end Rows
end Go.Proofs.YtkicbabfgahmkaaDoor
