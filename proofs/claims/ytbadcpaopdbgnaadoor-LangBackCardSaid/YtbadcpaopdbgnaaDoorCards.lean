/-
  DERIVED. GIVEN WITH THE SEED: THE CARDS: each row of YtbadcpaopdbgnaaDoorRows.lean that lists a variable, with what it lists TIED to the program's text (the seventh form; the later family's looks); each row that meets fmt, with fmt's text TOLD by the authors' own Lean function (tested against real Go, not proved from fmt's source: count such statements apart). THE CARD IS WHAT COUNTS. Prove the row's statement (the work); the ties are given (YtbadcpaopdbgnaaDoorTie.lean); close each card by the builder's one call (the guide's Derived/Test/ToyasCard.lean, 'card_holds'). Laid BY PROGRAM, IN A SANDBOX (cutbox-door.mjs). By AI agents, Wed Nov 11 2026. No macro, syntax, notation, axiom, sorry.
-/
import Derived.Test.YtbadcpaopdbgnaaDoorRows
import GoSem.ClaimSeven
namespace Go.Proofs.YtbadcpaopdbgnaaDoor
namespace Rows

/-- THE TIED CARD OF 'thresherlaw6.LangParses'. -/
def langParsesCard : Claim7 := { stood := { row := langParsesRow, standIns := [], harness := (true, "71f0b8d11ce45edbd970b61b49c1fa22aa6db77bdd9fe72afe5e51116f4d5bc6"), looks := true }, kinds := [], alts := [], laidByText := true, laidKinds := [.data, .data, .data, .sentinel, .sentinel, .listed, .data], laidTests := true, laidLooks := .later }
def LangParsesCardSaid : Prop := Claim7.holds Tryd.pinned (.plain (OpenSpec.ofChange langParsesSpec)) langParsesCard

/-- THE TIED CARD OF 'thresherlaw6.LangEdges'. -/
def langEdgesCard : Claim7 := { stood := { row := langEdgesRow, standIns := [], harness := (true, "71f0b8d11ce45edbd970b61b49c1fa22aa6db77bdd9fe72afe5e51116f4d5bc6"), looks := true }, kinds := [], alts := [], laidByText := true, laidKinds := [.data, .data, .data, .sentinel, .sentinel, .listed, .data], laidTests := true, laidLooks := .later }
def LangEdgesCardSaid : Prop := Claim7.holds Tryd.pinned (.plain (OpenSpec.ofChange langEdgesSpec)) langEdgesCard

/-- THE TIED CARD OF 'thresherlaw6.LangTexts'. -/
def langTextsCard : Claim7 := { stood := { row := langTextsRow, standIns := [], harness := (true, "71f0b8d11ce45edbd970b61b49c1fa22aa6db77bdd9fe72afe5e51116f4d5bc6"), looks := true }, kinds := [], alts := [], laidByText := true, laidKinds := [.data, .data, .data, .sentinel, .sentinel, .listed, .data], laidTests := true, laidLooks := .later }
def LangTextsCardSaid : Prop := Claim7.holds Tryd.pinned (.plain (OpenSpec.ofChange langTextsSpec)) langTextsCard

/-- THE TIED CARD OF 'thresherlaw6.LangBack'. -/
def langBackCard : Claim7 := { stood := { row := langBackRow, standIns := [], harness := (true, "71f0b8d11ce45edbd970b61b49c1fa22aa6db77bdd9fe72afe5e51116f4d5bc6"), looks := true }, kinds := [], alts := [], laidByText := true, laidKinds := [.data, .data, .data, .sentinel, .sentinel, .listed, .data], laidTests := true, laidLooks := .later }
def LangBackCardSaid : Prop := Claim7.holds Tryd.pinned (.plain (OpenSpec.ofChange langBackSpec)) langBackCard

/-- THE SECOND FORM's CARD OF 'thresherlaw6.LangParses'. -/
def langParsesUptoCard : Claim7 := { stood := { row := langParsesUptoRow, standIns := [], harness := (true, "71f0b8d11ce45edbd970b61b49c1fa22aa6db77bdd9fe72afe5e51116f4d5bc6"), looks := true }, kinds := [], alts := [], laidByText := true, laidKinds := [.data, .data, .data, .sentinel, .sentinel, .listed, .data], laidTests := true, laidLooks := .later }
def LangParsesUptoCardSaid : Prop := Claim7.holds Tryd.pinned (.plain (OpenSpec.upto langParsesSpec)) langParsesUptoCard

/-- THE SECOND FORM's CARD OF 'thresherlaw6.LangEdges'. -/
def langEdgesUptoCard : Claim7 := { stood := { row := langEdgesUptoRow, standIns := [], harness := (true, "71f0b8d11ce45edbd970b61b49c1fa22aa6db77bdd9fe72afe5e51116f4d5bc6"), looks := true }, kinds := [], alts := [], laidByText := true, laidKinds := [.data, .data, .data, .sentinel, .sentinel, .listed, .data], laidTests := true, laidLooks := .later }
def LangEdgesUptoCardSaid : Prop := Claim7.holds Tryd.pinned (.plain (OpenSpec.upto langEdgesSpec)) langEdgesUptoCard

/-- THE SECOND FORM's CARD OF 'thresherlaw6.LangTexts'. -/
def langTextsUptoCard : Claim7 := { stood := { row := langTextsUptoRow, standIns := [], harness := (true, "71f0b8d11ce45edbd970b61b49c1fa22aa6db77bdd9fe72afe5e51116f4d5bc6"), looks := true }, kinds := [], alts := [], laidByText := true, laidKinds := [.data, .data, .data, .sentinel, .sentinel, .listed, .data], laidTests := true, laidLooks := .later }
def LangTextsUptoCardSaid : Prop := Claim7.holds Tryd.pinned (.plain (OpenSpec.upto langTextsSpec)) langTextsUptoCard

/-- THE SECOND FORM's CARD OF 'thresherlaw6.LangBack'. -/
def langBackUptoCard : Claim7 := { stood := { row := langBackUptoRow, standIns := [], harness := (true, "71f0b8d11ce45edbd970b61b49c1fa22aa6db77bdd9fe72afe5e51116f4d5bc6"), looks := true }, kinds := [], alts := [], laidByText := true, laidKinds := [.data, .data, .data, .sentinel, .sentinel, .listed, .data], laidTests := true, laidLooks := .later }
def LangBackUptoCardSaid : Prop := Claim7.holds Tryd.pinned (.plain (OpenSpec.upto langBackSpec)) langBackUptoCard
end Rows
end Go.Proofs.YtbadcpaopdbgnaaDoor
