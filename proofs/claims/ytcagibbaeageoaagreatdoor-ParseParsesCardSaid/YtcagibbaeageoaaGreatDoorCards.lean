/-
  DERIVED. GIVEN WITH THE SEED: THE CARDS: each row of YtcagibbaeageoaaGreatDoorRows.lean that lists a variable, with what it lists TIED to the program's text (the seventh form; the later family's looks); each row that meets fmt, with fmt's text TOLD by the authors' own Lean function (tested against real Go, not proved from fmt's source: count such statements apart). THE CARD IS WHAT COUNTS. Prove the row's statement (the work); the ties are given (YtcagibbaeageoaaGreatDoorTie.lean); close each card by the builder's one call (the guide's Derived/Test/ToyasCard.lean, 'card_holds'). Laid BY PROGRAM, IN A SANDBOX (cutbox-door.mjs). By AI agents, Wed Nov 11 2026. No macro, syntax, notation, axiom, sorry.
-/
import Derived.Test.YtcagibbaeageoaaGreatDoorRows
import GoSem.ClaimSeven
namespace Go.Proofs.YtcagibbaeageoaaGreatDoor
namespace Rows

/-- THE TIED CARD OF 'lodelaw02.ParseParses'. -/
def parseParsesCard : Claim7 := { stood := { row := parseParsesRow, standIns := [], harness := (true, "448edb90eef9e79cde5b815887b827371993f4f2fc1c40dd066f7695722b2517"), looks := true }, kinds := [], alts := [], laidByText := true, laidKinds := [.data, .data, .data, .sentinel, .sentinel, .listed, .data], laidTests := true, laidLooks := .later }
def ParseParsesCardSaid : Prop := Claim7.holds Tryz.pinned (.plain (OpenSpec.ofChange parseParsesSpec)) parseParsesCard

/-- THE TIED CARD OF 'lodelaw02.ParseChecks'. -/
def parseChecksCard : Claim7 := { stood := { row := parseChecksRow, standIns := [], harness := (true, "448edb90eef9e79cde5b815887b827371993f4f2fc1c40dd066f7695722b2517"), looks := true }, kinds := [], alts := [], laidByText := true, laidKinds := [.data, .data, .data, .sentinel, .sentinel, .listed, .data], laidTests := true, laidLooks := .later }
def ParseChecksCardSaid : Prop := Claim7.holds Tryz.pinned (.plain (OpenSpec.ofChange parseChecksSpec)) parseChecksCard

/-- THE TIED CARD OF 'lodelaw02.ParsePaths'. -/
def parsePathsCard : Claim7 := { stood := { row := parsePathsRow, standIns := [], harness := (true, "448edb90eef9e79cde5b815887b827371993f4f2fc1c40dd066f7695722b2517"), looks := true }, kinds := [], alts := [], laidByText := true, laidKinds := [.data, .data, .data, .sentinel, .sentinel, .listed, .data], laidTests := true, laidLooks := .later }
def ParsePathsCardSaid : Prop := Claim7.holds Tryz.pinned (.plain (OpenSpec.ofChange parsePathsSpec)) parsePathsCard

/-- THE TIED CARD OF 'lodelaw02.ParsePrints'. -/
def parsePrintsCard : Claim7 := { stood := { row := parsePrintsRow, standIns := [], harness := (true, "448edb90eef9e79cde5b815887b827371993f4f2fc1c40dd066f7695722b2517"), looks := true }, kinds := [], alts := [], laidByText := true, laidKinds := [.data, .data, .data, .sentinel, .sentinel, .listed, .data], laidTests := true, laidLooks := .later }
def ParsePrintsCardSaid : Prop := Claim7.holds Tryz.pinned (.plain (OpenSpec.ofChange parsePrintsSpec)) parsePrintsCard

/-- THE TIED CARD OF 'lodelaw02.ParsePretties'. -/
def parsePrettiesCard : Claim7 := { stood := { row := parsePrettiesRow, standIns := [], harness := (true, "448edb90eef9e79cde5b815887b827371993f4f2fc1c40dd066f7695722b2517"), looks := true }, kinds := [], alts := [], laidByText := true, laidKinds := [.data, .data, .data, .sentinel, .sentinel, .listed, .data], laidTests := true, laidLooks := .later }
def ParsePrettiesCardSaid : Prop := Claim7.holds Tryz.pinned (.plain (OpenSpec.ofChange parsePrettiesSpec)) parsePrettiesCard

/-- THE TIED CARD OF 'lodelaw02.ParseCuts'. -/
def parseCutsCard : Claim7 := { stood := { row := parseCutsRow, standIns := [], harness := (true, "448edb90eef9e79cde5b815887b827371993f4f2fc1c40dd066f7695722b2517"), looks := true }, kinds := [], alts := [], laidByText := true, laidKinds := [.data, .data, .data, .sentinel, .sentinel, .listed, .data], laidTests := true, laidLooks := .later }
def ParseCutsCardSaid : Prop := Claim7.holds Tryz.pinned (.plain (OpenSpec.ofChange parseCutsSpec)) parseCutsCard

/-- THE TIED CARD OF 'lodelaw02.ParseEquals'. -/
def parseEqualsCard : Claim7 := { stood := { row := parseEqualsRow, standIns := [], harness := (true, "448edb90eef9e79cde5b815887b827371993f4f2fc1c40dd066f7695722b2517"), looks := true }, kinds := [], alts := [], laidByText := true, laidKinds := [.data, .data, .data, .sentinel, .sentinel, .listed, .data], laidTests := true, laidLooks := .later }
def ParseEqualsCardSaid : Prop := Claim7.holds Tryz.pinned (.plain (OpenSpec.ofChange parseEqualsSpec)) parseEqualsCard

/-- THE SECOND FORM's CARD OF 'lodelaw02.ParseParses'. -/
def parseParsesUptoCard : Claim7 := { stood := { row := parseParsesUptoRow, standIns := [], harness := (true, "448edb90eef9e79cde5b815887b827371993f4f2fc1c40dd066f7695722b2517"), looks := true }, kinds := [], alts := [], laidByText := true, laidKinds := [.data, .data, .data, .sentinel, .sentinel, .listed, .data], laidTests := true, laidLooks := .later }
def ParseParsesUptoCardSaid : Prop := Claim7.holds Tryz.pinned (.plain (OpenSpec.upto parseParsesSpec)) parseParsesUptoCard

/-- THE SECOND FORM's CARD OF 'lodelaw02.ParseChecks'. -/
def parseChecksUptoCard : Claim7 := { stood := { row := parseChecksUptoRow, standIns := [], harness := (true, "448edb90eef9e79cde5b815887b827371993f4f2fc1c40dd066f7695722b2517"), looks := true }, kinds := [], alts := [], laidByText := true, laidKinds := [.data, .data, .data, .sentinel, .sentinel, .listed, .data], laidTests := true, laidLooks := .later }
def ParseChecksUptoCardSaid : Prop := Claim7.holds Tryz.pinned (.plain (OpenSpec.upto parseChecksSpec)) parseChecksUptoCard

/-- THE SECOND FORM's CARD OF 'lodelaw02.ParsePaths'. -/
def parsePathsUptoCard : Claim7 := { stood := { row := parsePathsUptoRow, standIns := [], harness := (true, "448edb90eef9e79cde5b815887b827371993f4f2fc1c40dd066f7695722b2517"), looks := true }, kinds := [], alts := [], laidByText := true, laidKinds := [.data, .data, .data, .sentinel, .sentinel, .listed, .data], laidTests := true, laidLooks := .later }
def ParsePathsUptoCardSaid : Prop := Claim7.holds Tryz.pinned (.plain (OpenSpec.upto parsePathsSpec)) parsePathsUptoCard

/-- THE SECOND FORM's CARD OF 'lodelaw02.ParsePrints'. -/
def parsePrintsUptoCard : Claim7 := { stood := { row := parsePrintsUptoRow, standIns := [], harness := (true, "448edb90eef9e79cde5b815887b827371993f4f2fc1c40dd066f7695722b2517"), looks := true }, kinds := [], alts := [], laidByText := true, laidKinds := [.data, .data, .data, .sentinel, .sentinel, .listed, .data], laidTests := true, laidLooks := .later }
def ParsePrintsUptoCardSaid : Prop := Claim7.holds Tryz.pinned (.plain (OpenSpec.upto parsePrintsSpec)) parsePrintsUptoCard

/-- THE SECOND FORM's CARD OF 'lodelaw02.ParsePretties'. -/
def parsePrettiesUptoCard : Claim7 := { stood := { row := parsePrettiesUptoRow, standIns := [], harness := (true, "448edb90eef9e79cde5b815887b827371993f4f2fc1c40dd066f7695722b2517"), looks := true }, kinds := [], alts := [], laidByText := true, laidKinds := [.data, .data, .data, .sentinel, .sentinel, .listed, .data], laidTests := true, laidLooks := .later }
def ParsePrettiesUptoCardSaid : Prop := Claim7.holds Tryz.pinned (.plain (OpenSpec.upto parsePrettiesSpec)) parsePrettiesUptoCard

/-- THE SECOND FORM's CARD OF 'lodelaw02.ParseCuts'. -/
def parseCutsUptoCard : Claim7 := { stood := { row := parseCutsUptoRow, standIns := [], harness := (true, "448edb90eef9e79cde5b815887b827371993f4f2fc1c40dd066f7695722b2517"), looks := true }, kinds := [], alts := [], laidByText := true, laidKinds := [.data, .data, .data, .sentinel, .sentinel, .listed, .data], laidTests := true, laidLooks := .later }
def ParseCutsUptoCardSaid : Prop := Claim7.holds Tryz.pinned (.plain (OpenSpec.upto parseCutsSpec)) parseCutsUptoCard

/-- THE SECOND FORM's CARD OF 'lodelaw02.ParseEquals'. -/
def parseEqualsUptoCard : Claim7 := { stood := { row := parseEqualsUptoRow, standIns := [], harness := (true, "448edb90eef9e79cde5b815887b827371993f4f2fc1c40dd066f7695722b2517"), looks := true }, kinds := [], alts := [], laidByText := true, laidKinds := [.data, .data, .data, .sentinel, .sentinel, .listed, .data], laidTests := true, laidLooks := .later }
def ParseEqualsUptoCardSaid : Prop := Claim7.holds Tryz.pinned (.plain (OpenSpec.upto parseEqualsSpec)) parseEqualsUptoCard
end Rows
end Go.Proofs.YtcagibbaeageoaaGreatDoor
