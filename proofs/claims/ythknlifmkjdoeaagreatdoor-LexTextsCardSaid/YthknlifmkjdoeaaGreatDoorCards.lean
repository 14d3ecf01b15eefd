/-
  DERIVED. GIVEN WITH THE SEED: THE CARDS: each row of YthknlifmkjdoeaaGreatDoorRows.lean that lists a variable, with what it lists TIED to the program's text (the seventh form; the later family's looks); each row that meets fmt, with fmt's text TOLD by the authors' own Lean function (tested against real Go, not proved from fmt's source: count such statements apart). THE CARD IS WHAT COUNTS. Prove the row's statement (the work); the ties are given (YthknlifmkjdoeaaGreatDoorTie.lean); close each card by the builder's one call (the guide's Derived/Test/ToyasCard.lean, 'card_holds'). Laid BY PROGRAM, IN A SANDBOX (cutbox-door.mjs). By AI agents, Wed Nov 11 2026. No macro, syntax, notation, axiom, sorry.
-/
import Derived.Test.YthknlifmkjdoeaaGreatDoorRows
import GoSem.ClaimSeven
namespace Go.Proofs.YthknlifmkjdoeaaGreatDoor
namespace Rows

/-- THE TIED CARD OF 'lodelaw01.LexPlaces'. -/
def lexPlacesCard : Claim7 := { stood := { row := lexPlacesRow, standIns := [], harness := (true, "6462442ca2386165831ba5c7eec8dd6cfd1b1e43c705e7c46f9c83a745214a52"), looks := true }, kinds := [], alts := [], laidByText := true, laidKinds := [.data, .data, .data, .data, .sentinel, .sentinel, .listed, .data, .pinned], laidTests := true, laidLooks := .later }
def LexPlacesCardSaid : Prop := Claim7.holds Tryz.pinned (.plain (OpenSpec.ofChange lexPlacesSpec)) lexPlacesCard

/-- THE TIED CARD OF 'lodelaw01.LexReads'. -/
def lexReadsCard : Claim7 := { stood := { row := lexReadsRow, standIns := [], harness := (true, "6462442ca2386165831ba5c7eec8dd6cfd1b1e43c705e7c46f9c83a745214a52"), looks := true }, kinds := [], alts := [], laidByText := true, laidKinds := [.data, .data, .data, .data, .sentinel, .sentinel, .listed, .data, .pinned], laidTests := true, laidLooks := .later }
def LexReadsCardSaid : Prop := Claim7.holds Tryz.pinned (.plain (OpenSpec.ofChange lexReadsSpec)) lexReadsCard

/-- THE TIED CARD OF 'lodelaw01.LexQuotes'. -/
def lexQuotesCard : Claim7 := { stood := { row := lexQuotesRow, standIns := [], harness := (true, "6462442ca2386165831ba5c7eec8dd6cfd1b1e43c705e7c46f9c83a745214a52"), looks := true }, kinds := [], alts := [], laidByText := true, laidKinds := [.data, .data, .data, .data, .sentinel, .sentinel, .listed, .data, .pinned], laidTests := true, laidLooks := .later }
def LexQuotesCardSaid : Prop := Claim7.holds Tryz.pinned (.plain (OpenSpec.ofChange lexQuotesSpec)) lexQuotesCard

/-- THE TIED CARD OF 'lodelaw01.LexDiffers'. -/
def lexDiffersCard : Claim7 := { stood := { row := lexDiffersRow, standIns := [], harness := (true, "6462442ca2386165831ba5c7eec8dd6cfd1b1e43c705e7c46f9c83a745214a52"), looks := true }, kinds := [], alts := [], laidByText := true, laidKinds := [.data, .data, .data, .data, .sentinel, .sentinel, .listed, .data, .pinned], laidTests := true, laidLooks := .later }
def LexDiffersCardSaid : Prop := Claim7.holds Tryz.pinned (.plain (OpenSpec.ofChange lexDiffersSpec)) lexDiffersCard

/-- THE TIED CARD OF 'lodelaw01.LexGaps'. -/
def lexGapsCard : Claim7 := { stood := { row := lexGapsRow, standIns := [], harness := (true, "6462442ca2386165831ba5c7eec8dd6cfd1b1e43c705e7c46f9c83a745214a52"), looks := true }, kinds := [], alts := [], laidByText := true, laidKinds := [.data, .data, .data, .data, .sentinel, .sentinel, .listed, .data, .pinned], laidTests := true, laidLooks := .later }
def LexGapsCardSaid : Prop := Claim7.holds Tryz.pinned (.plain (OpenSpec.ofChange lexGapsSpec)) lexGapsCard

/-- THE TIED CARD OF 'lodelaw01.LexQuoted'. -/
def lexQuotedCard : Claim7 := { stood := { row := lexQuotedRow, standIns := [], harness := (true, "6462442ca2386165831ba5c7eec8dd6cfd1b1e43c705e7c46f9c83a745214a52"), looks := true }, kinds := [], alts := [], laidByText := true, laidKinds := [.data, .data, .data, .data, .sentinel, .sentinel, .listed, .data, .pinned], laidTests := true, laidLooks := .later }
def LexQuotedCardSaid : Prop := Claim7.holds Tryz.pinned (.plain (OpenSpec.ofChange lexQuotedSpec)) lexQuotedCard

/-- THE TIED CARD OF 'lodelaw01.LexDiffered'. -/
def lexDifferedCard : Claim7 := { stood := { row := lexDifferedRow, standIns := [], harness := (true, "6462442ca2386165831ba5c7eec8dd6cfd1b1e43c705e7c46f9c83a745214a52"), looks := true }, kinds := [], alts := [], laidByText := true, laidKinds := [.data, .data, .data, .data, .sentinel, .sentinel, .listed, .data, .pinned], laidTests := true, laidLooks := .later }
def LexDifferedCardSaid : Prop := Claim7.holds Tryz.pinned (.plain (OpenSpec.ofChange lexDifferedSpec)) lexDifferedCard

/-- THE TIED CARD OF 'lodelaw01.LexSpells'. -/
def lexSpellsCard : Claim7 := { stood := { row := lexSpellsRow, standIns := [], harness := (true, "6462442ca2386165831ba5c7eec8dd6cfd1b1e43c705e7c46f9c83a745214a52"), looks := true }, kinds := [], alts := [], laidByText := true, laidKinds := [.data, .data, .data, .data, .sentinel, .sentinel, .listed, .data, .pinned], laidTests := true, laidLooks := .later }
def LexSpellsCardSaid : Prop := Claim7.holds Tryz.pinned (.plain (OpenSpec.ofChange lexSpellsSpec)) lexSpellsCard

/-- THE TIED CARD OF 'lodelaw01.LexFollows'. -/
def lexFollowsCard : Claim7 := { stood := { row := lexFollowsRow, standIns := [], harness := (true, "6462442ca2386165831ba5c7eec8dd6cfd1b1e43c705e7c46f9c83a745214a52"), looks := true }, kinds := [], alts := [], laidByText := true, laidKinds := [.data, .data, .data, .data, .sentinel, .sentinel, .listed, .data, .pinned], laidTests := true, laidLooks := .later }
def LexFollowsCardSaid : Prop := Claim7.holds Tryz.pinned (.plain (OpenSpec.ofChange lexFollowsSpec)) lexFollowsCard

/-- THE TIED CARD OF 'lodelaw01.LexBlanks'. -/
def lexBlanksCard : Claim7 := { stood := { row := lexBlanksRow, standIns := [], harness := (true, "6462442ca2386165831ba5c7eec8dd6cfd1b1e43c705e7c46f9c83a745214a52"), looks := true }, kinds := [], alts := [], laidByText := true, laidKinds := [.data, .data, .data, .data, .sentinel, .sentinel, .listed, .data, .pinned], laidTests := true, laidLooks := .later }
def LexBlanksCardSaid : Prop := Claim7.holds Tryz.pinned (.plain (OpenSpec.ofChange lexBlanksSpec)) lexBlanksCard

/-- THE TIED CARD OF 'lodelaw01.LexPartners'. -/
def lexPartnersCard : Claim7 := { stood := { row := lexPartnersRow, standIns := [], harness := (true, "6462442ca2386165831ba5c7eec8dd6cfd1b1e43c705e7c46f9c83a745214a52"), looks := true }, kinds := [], alts := [], laidByText := true, laidKinds := [.data, .data, .data, .data, .sentinel, .sentinel, .listed, .data, .pinned], laidTests := true, laidLooks := .later }
def LexPartnersCardSaid : Prop := Claim7.holds Tryz.pinned (.plain (OpenSpec.ofChange lexPartnersSpec)) lexPartnersCard

/-- THE TIED CARD OF 'lodelaw01.LexTexts'. -/
def lexTextsCard : Claim7 := { stood := { row := lexTextsRow, standIns := [], harness := (true, "6462442ca2386165831ba5c7eec8dd6cfd1b1e43c705e7c46f9c83a745214a52"), looks := true }, kinds := [], alts := [], laidByText := true, laidKinds := [.data, .data, .data, .data, .sentinel, .sentinel, .listed, .data, .pinned], laidTests := true, laidLooks := .later }
def LexTextsCardSaid : Prop := Claim7.holds Tryz.pinned (.plain (OpenSpec.ofChange lexTextsSpec)) lexTextsCard

/-- THE SECOND FORM's CARD OF 'lodelaw01.LexPlaces'. -/
def lexPlacesUptoCard : Claim7 := { stood := { row := lexPlacesUptoRow, standIns := [], harness := (true, "6462442ca2386165831ba5c7eec8dd6cfd1b1e43c705e7c46f9c83a745214a52"), looks := true }, kinds := [], alts := [], laidByText := true, laidKinds := [.data, .data, .data, .data, .sentinel, .sentinel, .listed, .data, .pinned], laidTests := true, laidLooks := .later }
def LexPlacesUptoCardSaid : Prop := Claim7.holds Tryz.pinned (.plain (OpenSpec.upto lexPlacesSpec)) lexPlacesUptoCard

/-- THE SECOND FORM's CARD OF 'lodelaw01.LexReads'. -/
def lexReadsUptoCard : Claim7 := { stood := { row := lexReadsUptoRow, standIns := [], harness := (true, "6462442ca2386165831ba5c7eec8dd6cfd1b1e43c705e7c46f9c83a745214a52"), looks := true }, kinds := [], alts := [], laidByText := true, laidKinds := [.data, .data, .data, .data, .sentinel, .sentinel, .listed, .data, .pinned], laidTests := true, laidLooks := .later }
def LexReadsUptoCardSaid : Prop := Claim7.holds Tryz.pinned (.plain (OpenSpec.upto lexReadsSpec)) lexReadsUptoCard

/-- THE SECOND FORM's CARD OF 'lodelaw01.LexQuotes'. -/
def lexQuotesUptoCard : Claim7 := { stood := { row := lexQuotesUptoRow, standIns := [], harness := (true, "6462442ca2386165831ba5c7eec8dd6cfd1b1e43c705e7c46f9c83a745214a52"), looks := true }, kinds := [], alts := [], laidByText := true, laidKinds := [.data, .data, .data, .data, .sentinel, .sentinel, .listed, .data, .pinned], laidTests := true, laidLooks := .later }
def LexQuotesUptoCardSaid : Prop := Claim7.holds Tryz.pinned (.plain (OpenSpec.upto lexQuotesSpec)) lexQuotesUptoCard

/-- THE SECOND FORM's CARD OF 'lodelaw01.LexDiffers'. -/
def lexDiffersUptoCard : Claim7 := { stood := { row := lexDiffersUptoRow, standIns := [], harness := (true, "6462442ca2386165831ba5c7eec8dd6cfd1b1e43c705e7c46f9c83a745214a52"), looks := true }, kinds := [], alts := [], laidByText := true, laidKinds := [.data, .data, .data, .data, .sentinel, .sentinel, .listed, .data, .pinned], laidTests := true, laidLooks := .later }
def LexDiffersUptoCardSaid : Prop := Claim7.holds Tryz.pinned (.plain (OpenSpec.upto lexDiffersSpec)) lexDiffersUptoCard

/-- THE SECOND FORM's CARD OF 'lodelaw01.LexGaps'. -/
def lexGapsUptoCard : Claim7 := { stood := { row := lexGapsUptoRow, standIns := [], harness := (true, "6462442ca2386165831ba5c7eec8dd6cfd1b1e43c705e7c46f9c83a745214a52"), looks := true }, kinds := [], alts := [], laidByText := true, laidKinds := [.data, .data, .data, .data, .sentinel, .sentinel, .listed, .data, .pinned], laidTests := true, laidLooks := .later }
def LexGapsUptoCardSaid : Prop := Claim7.holds Tryz.pinned (.plain (OpenSpec.upto lexGapsSpec)) lexGapsUptoCard

/-- THE SECOND FORM's CARD OF 'lodelaw01.LexQuoted'. -/
def lexQuotedUptoCard : Claim7 := { stood := { row := lexQuotedUptoRow, standIns := [], harness := (true, "6462442ca2386165831ba5c7eec8dd6cfd1b1e43c705e7c46f9c83a745214a52"), looks := true }, kinds := [], alts := [], laidByText := true, laidKinds := [.data, .data, .data, .data, .sentinel, .sentinel, .listed, .data, .pinned], laidTests := true, laidLooks := .later }
def LexQuotedUptoCardSaid : Prop := Claim7.holds Tryz.pinned (.plain (OpenSpec.upto lexQuotedSpec)) lexQuotedUptoCard

/-- THE SECOND FORM's CARD OF 'lodelaw01.LexDiffered'. -/
def lexDifferedUptoCard : Claim7 := { stood := { row := lexDifferedUptoRow, standIns := [], harness := (true, "6462442ca2386165831ba5c7eec8dd6cfd1b1e43c705e7c46f9c83a745214a52"), looks := true }, kinds := [], alts := [], laidByText := true, laidKinds := [.data, .data, .data, .data, .sentinel, .sentinel, .listed, .data, .pinned], laidTests := true, laidLooks := .later }
def LexDifferedUptoCardSaid : Prop := Claim7.holds Tryz.pinned (.plain (OpenSpec.upto lexDifferedSpec)) lexDifferedUptoCard

/-- THE SECOND FORM's CARD OF 'lodelaw01.LexSpells'. -/
def lexSpellsUptoCard : Claim7 := { stood := { row := lexSpellsUptoRow, standIns := [], harness := (true, "6462442ca2386165831ba5c7eec8dd6cfd1b1e43c705e7c46f9c83a745214a52"), looks := true }, kinds := [], alts := [], laidByText := true, laidKinds := [.data, .data, .data, .data, .sentinel, .sentinel, .listed, .data, .pinned], laidTests := true, laidLooks := .later }
def LexSpellsUptoCardSaid : Prop := Claim7.holds Tryz.pinned (.plain (OpenSpec.upto lexSpellsSpec)) lexSpellsUptoCard

/-- THE SECOND FORM's CARD OF 'lodelaw01.LexFollows'. -/
def lexFollowsUptoCard : Claim7 := { stood := { row := lexFollowsUptoRow, standIns := [], harness := (true, "6462442ca2386165831ba5c7eec8dd6cfd1b1e43c705e7c46f9c83a745214a52"), looks := true }, kinds := [], alts := [], laidByText := true, laidKinds := [.data, .data, .data, .data, .sentinel, .sentinel, .listed, .data, .pinned], laidTests := true, laidLooks := .later }
def LexFollowsUptoCardSaid : Prop := Claim7.holds Tryz.pinned (.plain (OpenSpec.upto lexFollowsSpec)) lexFollowsUptoCard

/-- THE SECOND FORM's CARD OF 'lodelaw01.LexBlanks'. -/
def lexBlanksUptoCard : Claim7 := { stood := { row := lexBlanksUptoRow, standIns := [], harness := (true, "6462442ca2386165831ba5c7eec8dd6cfd1b1e43c705e7c46f9c83a745214a52"), looks := true }, kinds := [], alts := [], laidByText := true, laidKinds := [.data, .data, .data, .data, .sentinel, .sentinel, .listed, .data, .pinned], laidTests := true, laidLooks := .later }
def LexBlanksUptoCardSaid : Prop := Claim7.holds Tryz.pinned (.plain (OpenSpec.upto lexBlanksSpec)) lexBlanksUptoCard

/-- THE SECOND FORM's CARD OF 'lodelaw01.LexPartners'. -/
def lexPartnersUptoCard : Claim7 := { stood := { row := lexPartnersUptoRow, standIns := [], harness := (true, "6462442ca2386165831ba5c7eec8dd6cfd1b1e43c705e7c46f9c83a745214a52"), looks := true }, kinds := [], alts := [], laidByText := true, laidKinds := [.data, .data, .data, .data, .sentinel, .sentinel, .listed, .data, .pinned], laidTests := true, laidLooks := .later }
def LexPartnersUptoCardSaid : Prop := Claim7.holds Tryz.pinned (.plain (OpenSpec.upto lexPartnersSpec)) lexPartnersUptoCard

/-- THE SECOND FORM's CARD OF 'lodelaw01.LexTexts'. -/
def lexTextsUptoCard : Claim7 := { stood := { row := lexTextsUptoRow, standIns := [], harness := (true, "6462442ca2386165831ba5c7eec8dd6cfd1b1e43c705e7c46f9c83a745214a52"), looks := true }, kinds := [], alts := [], laidByText := true, laidKinds := [.data, .data, .data, .data, .sentinel, .sentinel, .listed, .data, .pinned], laidTests := true, laidLooks := .later }
def LexTextsUptoCardSaid : Prop := Claim7.holds Tryz.pinned (.plain (OpenSpec.upto lexTextsSpec)) lexTextsUptoCard
end Rows
end Go.Proofs.YthknlifmkjdoeaaGreatDoor
