/-
  DERIVED. GIVEN WITH THE SEED: THE CARDS: each row of YtnncmdpopgkibaaGreatDoorRows.lean that lists a variable, with what it lists TIED to the program's text (the seventh form; the later family's looks); each row that meets fmt, with fmt's text TOLD by the authors' own Lean function (tested against real Go, not proved from fmt's source: count such statements apart). THE CARD IS WHAT COUNTS. Prove the row's statement (the work); the ties are given (YtnncmdpopgkibaaGreatDoorTie.lean); close each card by the builder's one call (the guide's Derived/Test/ToyasCard.lean, 'card_holds'). Laid BY PROGRAM, IN A SANDBOX (cutbox-door.mjs). By AI agents, Wed Nov 11 2026. No macro, syntax, notation, axiom, sorry.
-/
import Derived.Test.YtnncmdpopgkibaaGreatDoorRows
import GoSem.ClaimSeven
namespace Go.Proofs.YtnncmdpopgkibaaGreatDoor
namespace Rows

/-- THE TIED CARD OF 'lodelaw02.ParseBegins'. -/
def parseBeginsCard : Claim7 := { stood := { row := parseBeginsRow, standIns := [], harness := (true, "75494370ad6bdd2dc8be65b2396ac78e8b388720ab6fcdf42ec17e6cebcd9e8d"), looks := true }, kinds := [], alts := [], laidByText := true, laidKinds := [.data, .data, .data, .sentinel, .sentinel, .listed, .data], laidTests := true, laidLooks := .later }
def ParseBeginsCardSaid : Prop := Claim7.holds Tryz.pinned (.plain (OpenSpec.ofChange parseBeginsSpec)) parseBeginsCard

/-- THE TIED CARD OF 'lodelaw02.ParseSums'. -/
def parseSumsCard : Claim7 := { stood := { row := parseSumsRow, standIns := [], harness := (true, "75494370ad6bdd2dc8be65b2396ac78e8b388720ab6fcdf42ec17e6cebcd9e8d"), looks := true }, kinds := [], alts := [], laidByText := true, laidKinds := [.data, .data, .data, .sentinel, .sentinel, .listed, .data], laidTests := true, laidLooks := .later }
def ParseSumsCardSaid : Prop := Claim7.holds Tryz.pinned (.plain (OpenSpec.ofChange parseSumsSpec)) parseSumsCard

/-- THE TIED CARD OF 'lodelaw02.ParseBack'. -/
def parseBackCard : Claim7 := { stood := { row := parseBackRow, standIns := [], harness := (true, "75494370ad6bdd2dc8be65b2396ac78e8b388720ab6fcdf42ec17e6cebcd9e8d"), looks := true }, kinds := [], alts := [], laidByText := true, laidKinds := [.data, .data, .data, .sentinel, .sentinel, .listed, .data], laidTests := true, laidLooks := .later }
def ParseBackCardSaid : Prop := Claim7.holds Tryz.pinned (.plain (OpenSpec.ofChange parseBackSpec)) parseBackCard

/-- THE TIED CARD OF 'lodelaw02.ParseLoose'. -/
def parseLooseCard : Claim7 := { stood := { row := parseLooseRow, standIns := [], harness := (true, "75494370ad6bdd2dc8be65b2396ac78e8b388720ab6fcdf42ec17e6cebcd9e8d"), looks := true }, kinds := [], alts := [], laidByText := true, laidKinds := [.data, .data, .data, .sentinel, .sentinel, .listed, .data], laidTests := true, laidLooks := .later }
def ParseLooseCardSaid : Prop := Claim7.holds Tryz.pinned (.plain (OpenSpec.ofChange parseLooseSpec)) parseLooseCard

/-- THE TIED CARD OF 'lodelaw02.ParseShort'. -/
def parseShortCard : Claim7 := { stood := { row := parseShortRow, standIns := [], harness := (true, "75494370ad6bdd2dc8be65b2396ac78e8b388720ab6fcdf42ec17e6cebcd9e8d"), looks := true }, kinds := [], alts := [], laidByText := true, laidKinds := [.data, .data, .data, .sentinel, .sentinel, .listed, .data], laidTests := true, laidLooks := .later }
def ParseShortCardSaid : Prop := Claim7.holds Tryz.pinned (.plain (OpenSpec.ofChange parseShortSpec)) parseShortCard

/-- THE TIED CARD OF 'lodelaw02.ParseApart'. -/
def parseApartCard : Claim7 := { stood := { row := parseApartRow, standIns := [], harness := (true, "75494370ad6bdd2dc8be65b2396ac78e8b388720ab6fcdf42ec17e6cebcd9e8d"), looks := true }, kinds := [], alts := [], laidByText := true, laidKinds := [.data, .data, .data, .sentinel, .sentinel, .listed, .data], laidTests := true, laidLooks := .later }
def ParseApartCardSaid : Prop := Claim7.holds Tryz.pinned (.plain (OpenSpec.ofChange parseApartSpec)) parseApartCard

/-- THE TIED CARD OF 'lodelaw02.ParseLeast'. -/
def parseLeastCard : Claim7 := { stood := { row := parseLeastRow, standIns := [], harness := (true, "75494370ad6bdd2dc8be65b2396ac78e8b388720ab6fcdf42ec17e6cebcd9e8d"), looks := true }, kinds := [], alts := [], laidByText := true, laidKinds := [.data, .data, .data, .sentinel, .sentinel, .listed, .data], laidTests := true, laidLooks := .later }
def ParseLeastCardSaid : Prop := Claim7.holds Tryz.pinned (.plain (OpenSpec.ofChange parseLeastSpec)) parseLeastCard

/-- THE SECOND FORM's CARD OF 'lodelaw02.ParseBegins'. -/
def parseBeginsUptoCard : Claim7 := { stood := { row := parseBeginsUptoRow, standIns := [], harness := (true, "75494370ad6bdd2dc8be65b2396ac78e8b388720ab6fcdf42ec17e6cebcd9e8d"), looks := true }, kinds := [], alts := [], laidByText := true, laidKinds := [.data, .data, .data, .sentinel, .sentinel, .listed, .data], laidTests := true, laidLooks := .later }
def ParseBeginsUptoCardSaid : Prop := Claim7.holds Tryz.pinned (.plain (OpenSpec.upto parseBeginsSpec)) parseBeginsUptoCard

/-- THE SECOND FORM's CARD OF 'lodelaw02.ParseSums'. -/
def parseSumsUptoCard : Claim7 := { stood := { row := parseSumsUptoRow, standIns := [], harness := (true, "75494370ad6bdd2dc8be65b2396ac78e8b388720ab6fcdf42ec17e6cebcd9e8d"), looks := true }, kinds := [], alts := [], laidByText := true, laidKinds := [.data, .data, .data, .sentinel, .sentinel, .listed, .data], laidTests := true, laidLooks := .later }
def ParseSumsUptoCardSaid : Prop := Claim7.holds Tryz.pinned (.plain (OpenSpec.upto parseSumsSpec)) parseSumsUptoCard

/-- THE SECOND FORM's CARD OF 'lodelaw02.ParseBack'. -/
def parseBackUptoCard : Claim7 := { stood := { row := parseBackUptoRow, standIns := [], harness := (true, "75494370ad6bdd2dc8be65b2396ac78e8b388720ab6fcdf42ec17e6cebcd9e8d"), looks := true }, kinds := [], alts := [], laidByText := true, laidKinds := [.data, .data, .data, .sentinel, .sentinel, .listed, .data], laidTests := true, laidLooks := .later }
def ParseBackUptoCardSaid : Prop := Claim7.holds Tryz.pinned (.plain (OpenSpec.upto parseBackSpec)) parseBackUptoCard

/-- THE SECOND FORM's CARD OF 'lodelaw02.ParseLoose'. -/
def parseLooseUptoCard : Claim7 := { stood := { row := parseLooseUptoRow, standIns := [], harness := (true, "75494370ad6bdd2dc8be65b2396ac78e8b388720ab6fcdf42ec17e6cebcd9e8d"), looks := true }, kinds := [], alts := [], laidByText := true, laidKinds := [.data, .data, .data, .sentinel, .sentinel, .listed, .data], laidTests := true, laidLooks := .later }
def ParseLooseUptoCardSaid : Prop := Claim7.holds Tryz.pinned (.plain (OpenSpec.upto parseLooseSpec)) parseLooseUptoCard

/-- THE SECOND FORM's CARD OF 'lodelaw02.ParseShort'. -/
def parseShortUptoCard : Claim7 := { stood := { row := parseShortUptoRow, standIns := [], harness := (true, "75494370ad6bdd2dc8be65b2396ac78e8b388720ab6fcdf42ec17e6cebcd9e8d"), looks := true }, kinds := [], alts := [], laidByText := true, laidKinds := [.data, .data, .data, .sentinel, .sentinel, .listed, .data], laidTests := true, laidLooks := .later }
def ParseShortUptoCardSaid : Prop := Claim7.holds Tryz.pinned (.plain (OpenSpec.upto parseShortSpec)) parseShortUptoCard

/-- THE SECOND FORM's CARD OF 'lodelaw02.ParseApart'. -/
def parseApartUptoCard : Claim7 := { stood := { row := parseApartUptoRow, standIns := [], harness := (true, "75494370ad6bdd2dc8be65b2396ac78e8b388720ab6fcdf42ec17e6cebcd9e8d"), looks := true }, kinds := [], alts := [], laidByText := true, laidKinds := [.data, .data, .data, .sentinel, .sentinel, .listed, .data], laidTests := true, laidLooks := .later }
def ParseApartUptoCardSaid : Prop := Claim7.holds Tryz.pinned (.plain (OpenSpec.upto parseApartSpec)) parseApartUptoCard

/-- THE SECOND FORM's CARD OF 'lodelaw02.ParseLeast'. -/
def parseLeastUptoCard : Claim7 := { stood := { row := parseLeastUptoRow, standIns := [], harness := (true, "75494370ad6bdd2dc8be65b2396ac78e8b388720ab6fcdf42ec17e6cebcd9e8d"), looks := true }, kinds := [], alts := [], laidByText := true, laidKinds := [.data, .data, .data, .sentinel, .sentinel, .listed, .data], laidTests := true, laidLooks := .later }
def ParseLeastUptoCardSaid : Prop := Claim7.holds Tryz.pinned (.plain (OpenSpec.upto parseLeastSpec)) parseLeastUptoCard
end Rows
end Go.Proofs.YtnncmdpopgkibaaGreatDoor
