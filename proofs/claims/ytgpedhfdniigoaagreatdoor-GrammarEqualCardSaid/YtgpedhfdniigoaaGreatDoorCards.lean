/-
  DERIVED. GIVEN WITH THE SEED: THE CARDS: each row of YtgpedhfdniigoaaGreatDoorRows.lean that lists a variable, with what it lists TIED to the program's text (the seventh form; the later family's looks); each row that meets fmt, with fmt's text TOLD by the authors' own Lean function (tested against real Go, not proved from fmt's source: count such statements apart). THE CARD IS WHAT COUNTS. Prove the row's statement (the work); the ties are given (YtgpedhfdniigoaaGreatDoorTie.lean); close each card by the builder's one call (the guide's Derived/Test/ToyasCard.lean, 'card_holds'). Laid BY PROGRAM, IN A SANDBOX (cutbox-door.mjs). By AI agents, Wed Nov 11 2026. No macro, syntax, notation, axiom, sorry.
-/
import Derived.Test.YtgpedhfdniigoaaGreatDoorRows
import GoSem.ClaimSeven
namespace Go.Proofs.YtgpedhfdniigoaaGreatDoor
namespace Rows

/-- THE TIED CARD OF 'concordlaw13.GrammarPrints'. -/
def grammarPrintsCard : Claim7 := { stood := { row := grammarPrintsRow, standIns := [], harness := (true, "3d26b5b383b8684b66668d7edf19a91c137d5e348eb187653bacd48fd696c6a0"), looks := true }, kinds := [], alts := [], laidByText := true, laidKinds := [.data, .data, .data, .data, .sentinel, .sentinel, .data, .data, .pinned, .pinned], laidTests := true, laidLooks := .later }
def GrammarPrintsCardSaid : Prop := Claim7.holds Tryz.pinned (.plain (OpenSpec.ofChange grammarPrintsSpec)) grammarPrintsCard

/-- THE TIED CARD OF 'concordlaw13.GrammarTexts'. -/
def grammarTextsCard : Claim7 := { stood := { row := grammarTextsRow, standIns := [], harness := (true, "3d26b5b383b8684b66668d7edf19a91c137d5e348eb187653bacd48fd696c6a0"), looks := true }, kinds := [], alts := [], laidByText := true, laidKinds := [.data, .data, .data, .data, .sentinel, .sentinel, .data, .data, .pinned, .pinned], laidTests := true, laidLooks := .later }
def GrammarTextsCardSaid : Prop := Claim7.holds Tryz.pinned (.plain (OpenSpec.ofChange grammarTextsSpec)) grammarTextsCard

/-- THE TIED CARD OF 'concordlaw13.GrammarCounts'. -/
def grammarCountsCard : Claim7 := { stood := { row := grammarCountsRow, standIns := [], harness := (true, "3d26b5b383b8684b66668d7edf19a91c137d5e348eb187653bacd48fd696c6a0"), looks := true }, kinds := [], alts := [], laidByText := true, laidKinds := [.data, .data, .data, .data, .sentinel, .sentinel, .data, .data, .pinned, .pinned], laidTests := true, laidLooks := .later }
def GrammarCountsCardSaid : Prop := Claim7.holds Tryz.pinned (.plain (OpenSpec.ofChange grammarCountsSpec)) grammarCountsCard

/-- THE TIED CARD OF 'concordlaw13.GrammarPrograms'. -/
def grammarProgramsCard : Claim7 := { stood := { row := grammarProgramsRow, standIns := [], harness := (true, "3d26b5b383b8684b66668d7edf19a91c137d5e348eb187653bacd48fd696c6a0"), looks := true }, kinds := [], alts := [], laidByText := true, laidKinds := [.data, .data, .data, .data, .sentinel, .sentinel, .data, .data, .pinned, .pinned], laidTests := true, laidLooks := .later }
def GrammarProgramsCardSaid : Prop := Claim7.holds Tryz.pinned (.plain (OpenSpec.ofChange grammarProgramsSpec)) grammarProgramsCard

/-- THE TIED CARD OF 'concordlaw13.GrammarEqual'. -/
def grammarEqualCard : Claim7 := { stood := { row := grammarEqualRow, standIns := [], harness := (true, "3d26b5b383b8684b66668d7edf19a91c137d5e348eb187653bacd48fd696c6a0"), looks := true }, kinds := [], alts := [], laidByText := true, laidKinds := [.data, .data, .data, .data, .sentinel, .sentinel, .data, .data, .pinned, .pinned], laidTests := true, laidLooks := .later }
def GrammarEqualCardSaid : Prop := Claim7.holds Tryz.pinned (.plain (OpenSpec.ofChange grammarEqualSpec)) grammarEqualCard

/-- THE TIED CARD OF 'concordlaw13.GrammarMore'. -/
def grammarMoreCard : Claim7 := { stood := { row := grammarMoreRow, standIns := [], harness := (true, "3d26b5b383b8684b66668d7edf19a91c137d5e348eb187653bacd48fd696c6a0"), looks := true }, kinds := [], alts := [], laidByText := true, laidKinds := [.data, .data, .data, .data, .sentinel, .sentinel, .data, .data, .pinned, .pinned], laidTests := true, laidLooks := .later }
def GrammarMoreCardSaid : Prop := Claim7.holds Tryz.pinned (.plain (OpenSpec.ofChange grammarMoreSpec)) grammarMoreCard

/-- THE TIED CARD OF 'concordlaw13.GrammarKeeps'. -/
def grammarKeepsCard : Claim7 := { stood := { row := grammarKeepsRow, standIns := [], harness := (true, "3d26b5b383b8684b66668d7edf19a91c137d5e348eb187653bacd48fd696c6a0"), looks := true }, kinds := [], alts := [], laidByText := true, laidKinds := [.data, .data, .data, .data, .sentinel, .sentinel, .data, .data, .pinned, .pinned], laidTests := true, laidLooks := .later }
def GrammarKeepsCardSaid : Prop := Claim7.holds Tryz.pinned (.plain (OpenSpec.ofChange grammarKeepsSpec)) grammarKeepsCard

/-- THE SECOND FORM's CARD OF 'concordlaw13.GrammarPrints'. -/
def grammarPrintsUptoCard : Claim7 := { stood := { row := grammarPrintsUptoRow, standIns := [], harness := (true, "3d26b5b383b8684b66668d7edf19a91c137d5e348eb187653bacd48fd696c6a0"), looks := true }, kinds := [], alts := [], laidByText := true, laidKinds := [.data, .data, .data, .data, .sentinel, .sentinel, .data, .data, .pinned, .pinned], laidTests := true, laidLooks := .later }
def GrammarPrintsUptoCardSaid : Prop := Claim7.holds Tryz.pinned (.plain (OpenSpec.upto grammarPrintsSpec)) grammarPrintsUptoCard

/-- THE SECOND FORM's CARD OF 'concordlaw13.GrammarTexts'. -/
def grammarTextsUptoCard : Claim7 := { stood := { row := grammarTextsUptoRow, standIns := [], harness := (true, "3d26b5b383b8684b66668d7edf19a91c137d5e348eb187653bacd48fd696c6a0"), looks := true }, kinds := [], alts := [], laidByText := true, laidKinds := [.data, .data, .data, .data, .sentinel, .sentinel, .data, .data, .pinned, .pinned], laidTests := true, laidLooks := .later }
def GrammarTextsUptoCardSaid : Prop := Claim7.holds Tryz.pinned (.plain (OpenSpec.upto grammarTextsSpec)) grammarTextsUptoCard

/-- THE SECOND FORM's CARD OF 'concordlaw13.GrammarCounts'. -/
def grammarCountsUptoCard : Claim7 := { stood := { row := grammarCountsUptoRow, standIns := [], harness := (true, "3d26b5b383b8684b66668d7edf19a91c137d5e348eb187653bacd48fd696c6a0"), looks := true }, kinds := [], alts := [], laidByText := true, laidKinds := [.data, .data, .data, .data, .sentinel, .sentinel, .data, .data, .pinned, .pinned], laidTests := true, laidLooks := .later }
def GrammarCountsUptoCardSaid : Prop := Claim7.holds Tryz.pinned (.plain (OpenSpec.upto grammarCountsSpec)) grammarCountsUptoCard

/-- THE SECOND FORM's CARD OF 'concordlaw13.GrammarPrograms'. -/
def grammarProgramsUptoCard : Claim7 := { stood := { row := grammarProgramsUptoRow, standIns := [], harness := (true, "3d26b5b383b8684b66668d7edf19a91c137d5e348eb187653bacd48fd696c6a0"), looks := true }, kinds := [], alts := [], laidByText := true, laidKinds := [.data, .data, .data, .data, .sentinel, .sentinel, .data, .data, .pinned, .pinned], laidTests := true, laidLooks := .later }
def GrammarProgramsUptoCardSaid : Prop := Claim7.holds Tryz.pinned (.plain (OpenSpec.upto grammarProgramsSpec)) grammarProgramsUptoCard

/-- THE SECOND FORM's CARD OF 'concordlaw13.GrammarEqual'. -/
def grammarEqualUptoCard : Claim7 := { stood := { row := grammarEqualUptoRow, standIns := [], harness := (true, "3d26b5b383b8684b66668d7edf19a91c137d5e348eb187653bacd48fd696c6a0"), looks := true }, kinds := [], alts := [], laidByText := true, laidKinds := [.data, .data, .data, .data, .sentinel, .sentinel, .data, .data, .pinned, .pinned], laidTests := true, laidLooks := .later }
def GrammarEqualUptoCardSaid : Prop := Claim7.holds Tryz.pinned (.plain (OpenSpec.upto grammarEqualSpec)) grammarEqualUptoCard

/-- THE SECOND FORM's CARD OF 'concordlaw13.GrammarMore'. -/
def grammarMoreUptoCard : Claim7 := { stood := { row := grammarMoreUptoRow, standIns := [], harness := (true, "3d26b5b383b8684b66668d7edf19a91c137d5e348eb187653bacd48fd696c6a0"), looks := true }, kinds := [], alts := [], laidByText := true, laidKinds := [.data, .data, .data, .data, .sentinel, .sentinel, .data, .data, .pinned, .pinned], laidTests := true, laidLooks := .later }
def GrammarMoreUptoCardSaid : Prop := Claim7.holds Tryz.pinned (.plain (OpenSpec.upto grammarMoreSpec)) grammarMoreUptoCard

/-- THE SECOND FORM's CARD OF 'concordlaw13.GrammarKeeps'. -/
def grammarKeepsUptoCard : Claim7 := { stood := { row := grammarKeepsUptoRow, standIns := [], harness := (true, "3d26b5b383b8684b66668d7edf19a91c137d5e348eb187653bacd48fd696c6a0"), looks := true }, kinds := [], alts := [], laidByText := true, laidKinds := [.data, .data, .data, .data, .sentinel, .sentinel, .data, .data, .pinned, .pinned], laidTests := true, laidLooks := .later }
def GrammarKeepsUptoCardSaid : Prop := Claim7.holds Tryz.pinned (.plain (OpenSpec.upto grammarKeepsSpec)) grammarKeepsUptoCard
end Rows
end Go.Proofs.YtgpedhfdniigoaaGreatDoor
