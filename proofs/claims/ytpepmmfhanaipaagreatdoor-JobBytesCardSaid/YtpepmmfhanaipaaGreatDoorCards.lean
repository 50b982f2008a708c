/-
  DERIVED. GIVEN WITH THE SEED: THE CARDS: each row of YtpepmmfhanaipaaGreatDoorRows.lean that lists a variable, with what it lists TIED to the program's text (the seventh form; the later family's looks); each row that meets fmt, with fmt's text TOLD by the authors' own Lean function (tested against real Go, not proved from fmt's source: count such statements apart). THE CARD IS WHAT COUNTS. Prove the row's statement (the work); the ties are given (YtpepmmfhanaipaaGreatDoorTie.lean); close each card by the builder's one call (the guide's Derived/Test/ToyasCard.lean, 'card_holds'). Laid BY PROGRAM, IN A SANDBOX (cutbox-door.mjs). By AI agents, Wed Nov 11 2026. No macro, syntax, notation, axiom, sorry.
-/
import Derived.Test.YtpepmmfhanaipaaGreatDoorRows
import GoSem.ClaimSeven
namespace Go.Proofs.YtpepmmfhanaipaaGreatDoor
namespace Rows

/-- THE TIED CARD OF 'thresherlaw13.LocalRuns'. -/
def localRunsCard : Claim7 := { stood := { row := localRunsRow, standIns := [], harness := (true, "10bb83296132beab089ecf93be3e6f13751003ed63fa4ecf40bc64297c0ff8ef"), looks := true }, kinds := [], alts := [], laidByText := true, laidKinds := [.data, .data, .data, .sentinel, .sentinel, .listed, .data], laidTests := true, laidLooks := .later }
def LocalRunsCardSaid : Prop := Claim7.holds Tryz.pinned (.plain (OpenSpec.ofChange localRunsSpec)) localRunsCard

/-- THE TIED CARD OF 'thresherlaw13.LocalWays'. -/
def localWaysCard : Claim7 := { stood := { row := localWaysRow, standIns := [], harness := (true, "10bb83296132beab089ecf93be3e6f13751003ed63fa4ecf40bc64297c0ff8ef"), looks := true }, kinds := [], alts := [], laidByText := true, laidKinds := [.data, .data, .data, .sentinel, .sentinel, .listed, .data], laidTests := true, laidLooks := .later }
def LocalWaysCardSaid : Prop := Claim7.holds Tryz.pinned (.plain (OpenSpec.ofChange localWaysSpec)) localWaysCard

/-- THE TIED CARD OF 'thresherlaw14.JobBytes'. -/
def jobBytesCard : Claim7 := { stood := { row := jobBytesRow, standIns := [], harness := (true, "10bb83296132beab089ecf93be3e6f13751003ed63fa4ecf40bc64297c0ff8ef"), looks := true }, kinds := [], alts := [], laidByText := true, laidKinds := [.data, .data, .data, .sentinel, .sentinel, .listed, .data], laidTests := true, laidLooks := .later }
def JobBytesCardSaid : Prop := Claim7.holds Tryz.pinned (.plain (OpenSpec.ofChange jobBytesSpec)) jobBytesCard

/-- THE SECOND FORM's CARD OF 'thresherlaw13.LocalRuns'. -/
def localRunsUptoCard : Claim7 := { stood := { row := localRunsUptoRow, standIns := [], harness := (true, "10bb83296132beab089ecf93be3e6f13751003ed63fa4ecf40bc64297c0ff8ef"), looks := true }, kinds := [], alts := [], laidByText := true, laidKinds := [.data, .data, .data, .sentinel, .sentinel, .listed, .data], laidTests := true, laidLooks := .later }
def LocalRunsUptoCardSaid : Prop := Claim7.holds Tryz.pinned (.plain (OpenSpec.upto localRunsSpec)) localRunsUptoCard

/-- THE SECOND FORM's CARD OF 'thresherlaw13.LocalWays'. -/
def localWaysUptoCard : Claim7 := { stood := { row := localWaysUptoRow, standIns := [], harness := (true, "10bb83296132beab089ecf93be3e6f13751003ed63fa4ecf40bc64297c0ff8ef"), looks := true }, kinds := [], alts := [], laidByText := true, laidKinds := [.data, .data, .data, .sentinel, .sentinel, .listed, .data], laidTests := true, laidLooks := .later }
def LocalWaysUptoCardSaid : Prop := Claim7.holds Tryz.pinned (.plain (OpenSpec.upto localWaysSpec)) localWaysUptoCard

/-- THE SECOND FORM's CARD OF 'thresherlaw14.JobBytes'. -/
def jobBytesUptoCard : Claim7 := { stood := { row := jobBytesUptoRow, standIns := [], harness := (true, "10bb83296132beab089ecf93be3e6f13751003ed63fa4ecf40bc64297c0ff8ef"), looks := true }, kinds := [], alts := [], laidByText := true, laidKinds := [.data, .data, .data, .sentinel, .sentinel, .listed, .data], laidTests := true, laidLooks := .later }
def JobBytesUptoCardSaid : Prop := Claim7.holds Tryz.pinned (.plain (OpenSpec.upto jobBytesSpec)) jobBytesUptoCard
end Rows
end Go.Proofs.YtpepmmfhanaipaaGreatDoor
