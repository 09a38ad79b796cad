/-
  DERIVED. GIVEN WITH THE SEED: THE CARDS: each row of YtfedkhjbkiillaaGreatDoorRows.lean that lists a variable, with what it lists TIED to the program's text (the seventh form; the later family's looks); each row that meets fmt, with fmt's text TOLD by the authors' own Lean function (tested against real Go, not proved from fmt's source: count such statements apart). THE CARD IS WHAT COUNTS. Prove the row's statement (the work); the ties are given (YtfedkhjbkiillaaGreatDoorTie.lean); close each card by the builder's one call (the guide's Derived/Test/ToyasCard.lean, 'card_holds'). Laid BY PROGRAM, IN A SANDBOX (cutbox-door.mjs). By AI agents, Wed Nov 11 2026. No macro, syntax, notation, axiom, sorry.
-/
import Derived.Test.YtfedkhjbkiillaaGreatDoorRows
import GoSem.ClaimSeven
namespace Go.Proofs.YtfedkhjbkiillaaGreatDoor
namespace Rows

/-- THE TIED CARD OF 'concordlaw14.ProgramTerms'. -/
def programTermsCard : Claim7 := { stood := { row := programTermsRow, standIns := [], harness := (true, "dce0b73f07a6167ac45532ea68d69aaf5709a36daedba92d3a5e0fd4d4eab7cf"), looks := true }, kinds := [], alts := [], laidByText := true, laidKinds := [.data, .data, .data, .pinned, .data, .data, .pinned, .sentinel, .sentinel, .data], laidTests := true, laidLooks := .later }
def ProgramTermsCardSaid : Prop := Claim7.holds Tryz.pinned (.plain (OpenSpec.ofChange programTermsSpec)) programTermsCard

/-- THE TIED CARD OF 'concordlaw14.ProgramEvals'. -/
def programEvalsCard : Claim7 := { stood := { row := programEvalsRow, standIns := [], harness := (true, "dce0b73f07a6167ac45532ea68d69aaf5709a36daedba92d3a5e0fd4d4eab7cf"), looks := true }, kinds := [], alts := [], laidByText := true, laidKinds := [.data, .data, .data, .pinned, .data, .data, .pinned, .sentinel, .sentinel, .data], laidTests := true, laidLooks := .later }
def ProgramEvalsCardSaid : Prop := Claim7.holds Tryz.pinned (.plain (OpenSpec.ofChange programEvalsSpec)) programEvalsCard

/-- THE TIED CARD OF 'concordlaw14.ProgramCounts'. -/
def programCountsCard : Claim7 := { stood := { row := programCountsRow, standIns := [], harness := (true, "dce0b73f07a6167ac45532ea68d69aaf5709a36daedba92d3a5e0fd4d4eab7cf"), looks := true }, kinds := [], alts := [], laidByText := true, laidKinds := [.data, .data, .data, .pinned, .data, .data, .pinned, .sentinel, .sentinel, .data], laidTests := true, laidLooks := .later }
def ProgramCountsCardSaid : Prop := Claim7.holds Tryz.pinned (.plain (OpenSpec.ofChange programCountsSpec)) programCountsCard

/-- THE TIED CARD OF 'concordlaw14.ProgramOpens'. -/
def programOpensCard : Claim7 := { stood := { row := programOpensRow, standIns := [], harness := (true, "dce0b73f07a6167ac45532ea68d69aaf5709a36daedba92d3a5e0fd4d4eab7cf"), looks := true }, kinds := [], alts := [], laidByText := true, laidKinds := [.data, .data, .data, .pinned, .data, .data, .pinned, .sentinel, .sentinel, .data], laidTests := true, laidLooks := .later }
def ProgramOpensCardSaid : Prop := Claim7.holds Tryz.pinned (.plain (OpenSpec.ofChange programOpensSpec)) programOpensCard

/-- THE TIED CARD OF 'concordlaw14.ProgramParts'. -/
def programPartsCard : Claim7 := { stood := { row := programPartsRow, standIns := [], harness := (true, "dce0b73f07a6167ac45532ea68d69aaf5709a36daedba92d3a5e0fd4d4eab7cf"), looks := true }, kinds := [], alts := [], laidByText := true, laidKinds := [.data, .data, .data, .pinned, .data, .data, .pinned, .sentinel, .sentinel, .data], laidTests := true, laidLooks := .later }
def ProgramPartsCardSaid : Prop := Claim7.holds Tryz.pinned (.plain (OpenSpec.ofChange programPartsSpec)) programPartsCard

/-- THE TIED CARD OF 'concordlaw14.ProgramOrder'. -/
def programOrderCard : Claim7 := { stood := { row := programOrderRow, standIns := [], harness := (true, "dce0b73f07a6167ac45532ea68d69aaf5709a36daedba92d3a5e0fd4d4eab7cf"), looks := true }, kinds := [], alts := [], laidByText := true, laidKinds := [.data, .data, .data, .pinned, .data, .data, .pinned, .sentinel, .sentinel, .data], laidTests := true, laidLooks := .later }
def ProgramOrderCardSaid : Prop := Claim7.holds Tryz.pinned (.plain (OpenSpec.ofChange programOrderSpec)) programOrderCard

/-- THE TIED CARD OF 'concordlaw14.ProgramOwn'. -/
def programOwnCard : Claim7 := { stood := { row := programOwnRow, standIns := [], harness := (true, "dce0b73f07a6167ac45532ea68d69aaf5709a36daedba92d3a5e0fd4d4eab7cf"), looks := true }, kinds := [], alts := [], laidByText := true, laidKinds := [.data, .data, .data, .pinned, .data, .data, .pinned, .sentinel, .sentinel, .data], laidTests := true, laidLooks := .later }
def ProgramOwnCardSaid : Prop := Claim7.holds Tryz.pinned (.plain (OpenSpec.ofChange programOwnSpec)) programOwnCard

/-- THE TIED CARD OF 'concordlaw14.ProgramReads'. -/
def programReadsCard : Claim7 := { stood := { row := programReadsRow, standIns := [], harness := (true, "dce0b73f07a6167ac45532ea68d69aaf5709a36daedba92d3a5e0fd4d4eab7cf"), looks := true }, kinds := [], alts := [], laidByText := true, laidKinds := [.data, .data, .data, .pinned, .data, .data, .pinned, .sentinel, .sentinel, .data], laidTests := true, laidLooks := .later }
def ProgramReadsCardSaid : Prop := Claim7.holds Tryz.pinned (.plain (OpenSpec.ofChange programReadsSpec)) programReadsCard

/-- THE SECOND FORM's CARD OF 'concordlaw14.ProgramTerms'. -/
def programTermsUptoCard : Claim7 := { stood := { row := programTermsUptoRow, standIns := [], harness := (true, "dce0b73f07a6167ac45532ea68d69aaf5709a36daedba92d3a5e0fd4d4eab7cf"), looks := true }, kinds := [], alts := [], laidByText := true, laidKinds := [.data, .data, .data, .pinned, .data, .data, .pinned, .sentinel, .sentinel, .data], laidTests := true, laidLooks := .later }
def ProgramTermsUptoCardSaid : Prop := Claim7.holds Tryz.pinned (.plain (OpenSpec.upto programTermsSpec)) programTermsUptoCard

/-- THE SECOND FORM's CARD OF 'concordlaw14.ProgramEvals'. -/
def programEvalsUptoCard : Claim7 := { stood := { row := programEvalsUptoRow, standIns := [], harness := (true, "dce0b73f07a6167ac45532ea68d69aaf5709a36daedba92d3a5e0fd4d4eab7cf"), looks := true }, kinds := [], alts := [], laidByText := true, laidKinds := [.data, .data, .data, .pinned, .data, .data, .pinned, .sentinel, .sentinel, .data], laidTests := true, laidLooks := .later }
def ProgramEvalsUptoCardSaid : Prop := Claim7.holds Tryz.pinned (.plain (OpenSpec.upto programEvalsSpec)) programEvalsUptoCard

/-- THE SECOND FORM's CARD OF 'concordlaw14.ProgramCounts'. -/
def programCountsUptoCard : Claim7 := { stood := { row := programCountsUptoRow, standIns := [], harness := (true, "dce0b73f07a6167ac45532ea68d69aaf5709a36daedba92d3a5e0fd4d4eab7cf"), looks := true }, kinds := [], alts := [], laidByText := true, laidKinds := [.data, .data, .data, .pinned, .data, .data, .pinned, .sentinel, .sentinel, .data], laidTests := true, laidLooks := .later }
def ProgramCountsUptoCardSaid : Prop := Claim7.holds Tryz.pinned (.plain (OpenSpec.upto programCountsSpec)) programCountsUptoCard

/-- THE SECOND FORM's CARD OF 'concordlaw14.ProgramOpens'. -/
def programOpensUptoCard : Claim7 := { stood := { row := programOpensUptoRow, standIns := [], harness := (true, "dce0b73f07a6167ac45532ea68d69aaf5709a36daedba92d3a5e0fd4d4eab7cf"), looks := true }, kinds := [], alts := [], laidByText := true, laidKinds := [.data, .data, .data, .pinned, .data, .data, .pinned, .sentinel, .sentinel, .data], laidTests := true, laidLooks := .later }
def ProgramOpensUptoCardSaid : Prop := Claim7.holds Tryz.pinned (.plain (OpenSpec.upto programOpensSpec)) programOpensUptoCard

/-- THE SECOND FORM's CARD OF 'concordlaw14.ProgramParts'. -/
def programPartsUptoCard : Claim7 := { stood := { row := programPartsUptoRow, standIns := [], harness := (true, "dce0b73f07a6167ac45532ea68d69aaf5709a36daedba92d3a5e0fd4d4eab7cf"), looks := true }, kinds := [], alts := [], laidByText := true, laidKinds := [.data, .data, .data, .pinned, .data, .data, .pinned, .sentinel, .sentinel, .data], laidTests := true, laidLooks := .later }
def ProgramPartsUptoCardSaid : Prop := Claim7.holds Tryz.pinned (.plain (OpenSpec.upto programPartsSpec)) programPartsUptoCard

/-- THE SECOND FORM's CARD OF 'concordlaw14.ProgramOrder'. -/
def programOrderUptoCard : Claim7 := { stood := { row := programOrderUptoRow, standIns := [], harness := (true, "dce0b73f07a6167ac45532ea68d69aaf5709a36daedba92d3a5e0fd4d4eab7cf"), looks := true }, kinds := [], alts := [], laidByText := true, laidKinds := [.data, .data, .data, .pinned, .data, .data, .pinned, .sentinel, .sentinel, .data], laidTests := true, laidLooks := .later }
def ProgramOrderUptoCardSaid : Prop := Claim7.holds Tryz.pinned (.plain (OpenSpec.upto programOrderSpec)) programOrderUptoCard

/-- THE SECOND FORM's CARD OF 'concordlaw14.ProgramOwn'. -/
def programOwnUptoCard : Claim7 := { stood := { row := programOwnUptoRow, standIns := [], harness := (true, "dce0b73f07a6167ac45532ea68d69aaf5709a36daedba92d3a5e0fd4d4eab7cf"), looks := true }, kinds := [], alts := [], laidByText := true, laidKinds := [.data, .data, .data, .pinned, .data, .data, .pinned, .sentinel, .sentinel, .data], laidTests := true, laidLooks := .later }
def ProgramOwnUptoCardSaid : Prop := Claim7.holds Tryz.pinned (.plain (OpenSpec.upto programOwnSpec)) programOwnUptoCard

/-- THE SECOND FORM's CARD OF 'concordlaw14.ProgramReads'. -/
def programReadsUptoCard : Claim7 := { stood := { row := programReadsUptoRow, standIns := [], harness := (true, "dce0b73f07a6167ac45532ea68d69aaf5709a36daedba92d3a5e0fd4d4eab7cf"), looks := true }, kinds := [], alts := [], laidByText := true, laidKinds := [.data, .data, .data, .pinned, .data, .data, .pinned, .sentinel, .sentinel, .data], laidTests := true, laidLooks := .later }
def ProgramReadsUptoCardSaid : Prop := Claim7.holds Tryz.pinned (.plain (OpenSpec.upto programReadsSpec)) programReadsUptoCard
end Rows
end Go.Proofs.YtfedkhjbkiillaaGreatDoor
