/-
  DERIVED. GIVEN WITH THE SEED: THE CARDS: each row of YtdejnaokkdndeaaGreatDoorRows.lean that lists a variable, with what it lists TIED to the program's text (the seventh form; the later family's looks); each row that meets fmt, with fmt's text TOLD by the authors' own Lean function (tested against real Go, not proved from fmt's source: count such statements apart). THE CARD IS WHAT COUNTS. Prove the row's statement (the work); the ties are given (YtdejnaokkdndeaaGreatDoorTie.lean); close each card by the builder's one call (the guide's Derived/Test/ToyasCard.lean, 'card_holds'). Laid BY PROGRAM, IN A SANDBOX (cutbox-door.mjs). By AI agents, Wed Nov 11 2026. No macro, syntax, notation, axiom, sorry.
-/
import Derived.Test.YtdejnaokkdndeaaGreatDoorRows
import GoSem.ClaimSeven
namespace Go.Proofs.YtdejnaokkdndeaaGreatDoor
namespace Rows

/-- THE TIED CARD OF 'concordlaw11.OperKinds'. -/
def operKindsCard : Claim7 := { stood := { row := operKindsRow, standIns := [], harness := (true, "18137ee6e96d52278827e9e9b9bbfa9753b909697e00f323138865490f39327c"), looks := true }, kinds := [], alts := [], laidByText := true, laidKinds := [.data, .data, .data, .data, .sentinel, .sentinel, .data, .data, .pinned, .pinned], laidTests := true, laidLooks := .later }
def OperKindsCardSaid : Prop := Claim7.holds Tryz.pinned (.plain (OpenSpec.ofChange operKindsSpec)) operKindsCard

/-- THE TIED CARD OF 'concordlaw11.OperStrict'. -/
def operStrictCard : Claim7 := { stood := { row := operStrictRow, standIns := [], harness := (true, "18137ee6e96d52278827e9e9b9bbfa9753b909697e00f323138865490f39327c"), looks := true }, kinds := [], alts := [], laidByText := true, laidKinds := [.data, .data, .data, .data, .sentinel, .sentinel, .data, .data, .pinned, .pinned], laidTests := true, laidLooks := .later }
def OperStrictCardSaid : Prop := Claim7.holds Tryz.pinned (.plain (OpenSpec.ofChange operStrictSpec)) operStrictCard

/-- THE TIED CARD OF 'concordlaw11.OperNumbers'. -/
def operNumbersCard : Claim7 := { stood := { row := operNumbersRow, standIns := [], harness := (true, "18137ee6e96d52278827e9e9b9bbfa9753b909697e00f323138865490f39327c"), looks := true }, kinds := [], alts := [], laidByText := true, laidKinds := [.data, .data, .data, .data, .sentinel, .sentinel, .data, .data, .pinned, .pinned], laidTests := true, laidLooks := .later }
def OperNumbersCardSaid : Prop := Claim7.holds Tryz.pinned (.plain (OpenSpec.ofChange operNumbersSpec)) operNumbersCard

/-- THE TIED CARD OF 'concordlaw11.OperTexts'. -/
def operTextsCard : Claim7 := { stood := { row := operTextsRow, standIns := [], harness := (true, "18137ee6e96d52278827e9e9b9bbfa9753b909697e00f323138865490f39327c"), looks := true }, kinds := [], alts := [], laidByText := true, laidKinds := [.data, .data, .data, .data, .sentinel, .sentinel, .data, .data, .pinned, .pinned], laidTests := true, laidLooks := .later }
def OperTextsCardSaid : Prop := Claim7.holds Tryz.pinned (.plain (OpenSpec.ofChange operTextsSpec)) operTextsCard

/-- THE TIED CARD OF 'concordlaw11.OperTables'. -/
def operTablesCard : Claim7 := { stood := { row := operTablesRow, standIns := [], harness := (true, "18137ee6e96d52278827e9e9b9bbfa9753b909697e00f323138865490f39327c"), looks := true }, kinds := [], alts := [], laidByText := true, laidKinds := [.data, .data, .data, .data, .sentinel, .sentinel, .data, .data, .pinned, .pinned], laidTests := true, laidLooks := .later }
def OperTablesCardSaid : Prop := Claim7.holds Tryz.pinned (.plain (OpenSpec.ofChange operTablesSpec)) operTablesCard

/-- THE TIED CARD OF 'concordlaw11.OperOwn'. -/
def operOwnCard : Claim7 := { stood := { row := operOwnRow, standIns := [], harness := (true, "18137ee6e96d52278827e9e9b9bbfa9753b909697e00f323138865490f39327c"), looks := true }, kinds := [], alts := [], laidByText := true, laidKinds := [.data, .data, .data, .data, .sentinel, .sentinel, .data, .data, .pinned, .pinned], laidTests := true, laidLooks := .later }
def OperOwnCardSaid : Prop := Claim7.holds Tryz.pinned (.plain (OpenSpec.ofChange operOwnSpec)) operOwnCard

/-- THE TIED CARD OF 'concordlaw11.OperReads'. -/
def operReadsCard : Claim7 := { stood := { row := operReadsRow, standIns := [], harness := (true, "18137ee6e96d52278827e9e9b9bbfa9753b909697e00f323138865490f39327c"), looks := true }, kinds := [], alts := [], laidByText := true, laidKinds := [.data, .data, .data, .data, .sentinel, .sentinel, .data, .data, .pinned, .pinned], laidTests := true, laidLooks := .later }
def OperReadsCardSaid : Prop := Claim7.holds Tryz.pinned (.plain (OpenSpec.ofChange operReadsSpec)) operReadsCard

/-- THE SECOND FORM's CARD OF 'concordlaw11.OperKinds'. -/
def operKindsUptoCard : Claim7 := { stood := { row := operKindsUptoRow, standIns := [], harness := (true, "18137ee6e96d52278827e9e9b9bbfa9753b909697e00f323138865490f39327c"), looks := true }, kinds := [], alts := [], laidByText := true, laidKinds := [.data, .data, .data, .data, .sentinel, .sentinel, .data, .data, .pinned, .pinned], laidTests := true, laidLooks := .later }
def OperKindsUptoCardSaid : Prop := Claim7.holds Tryz.pinned (.plain (OpenSpec.upto operKindsSpec)) operKindsUptoCard

/-- THE SECOND FORM's CARD OF 'concordlaw11.OperStrict'. -/
def operStrictUptoCard : Claim7 := { stood := { row := operStrictUptoRow, standIns := [], harness := (true, "18137ee6e96d52278827e9e9b9bbfa9753b909697e00f323138865490f39327c"), looks := true }, kinds := [], alts := [], laidByText := true, laidKinds := [.data, .data, .data, .data, .sentinel, .sentinel, .data, .data, .pinned, .pinned], laidTests := true, laidLooks := .later }
def OperStrictUptoCardSaid : Prop := Claim7.holds Tryz.pinned (.plain (OpenSpec.upto operStrictSpec)) operStrictUptoCard

/-- THE SECOND FORM's CARD OF 'concordlaw11.OperNumbers'. -/
def operNumbersUptoCard : Claim7 := { stood := { row := operNumbersUptoRow, standIns := [], harness := (true, "18137ee6e96d52278827e9e9b9bbfa9753b909697e00f323138865490f39327c"), looks := true }, kinds := [], alts := [], laidByText := true, laidKinds := [.data, .data, .data, .data, .sentinel, .sentinel, .data, .data, .pinned, .pinned], laidTests := true, laidLooks := .later }
def OperNumbersUptoCardSaid : Prop := Claim7.holds Tryz.pinned (.plain (OpenSpec.upto operNumbersSpec)) operNumbersUptoCard

/-- THE SECOND FORM's CARD OF 'concordlaw11.OperTexts'. -/
def operTextsUptoCard : Claim7 := { stood := { row := operTextsUptoRow, standIns := [], harness := (true, "18137ee6e96d52278827e9e9b9bbfa9753b909697e00f323138865490f39327c"), looks := true }, kinds := [], alts := [], laidByText := true, laidKinds := [.data, .data, .data, .data, .sentinel, .sentinel, .data, .data, .pinned, .pinned], laidTests := true, laidLooks := .later }
def OperTextsUptoCardSaid : Prop := Claim7.holds Tryz.pinned (.plain (OpenSpec.upto operTextsSpec)) operTextsUptoCard

/-- THE SECOND FORM's CARD OF 'concordlaw11.OperTables'. -/
def operTablesUptoCard : Claim7 := { stood := { row := operTablesUptoRow, standIns := [], harness := (true, "18137ee6e96d52278827e9e9b9bbfa9753b909697e00f323138865490f39327c"), looks := true }, kinds := [], alts := [], laidByText := true, laidKinds := [.data, .data, .data, .data, .sentinel, .sentinel, .data, .data, .pinned, .pinned], laidTests := true, laidLooks := .later }
def OperTablesUptoCardSaid : Prop := Claim7.holds Tryz.pinned (.plain (OpenSpec.upto operTablesSpec)) operTablesUptoCard

/-- THE SECOND FORM's CARD OF 'concordlaw11.OperOwn'. -/
def operOwnUptoCard : Claim7 := { stood := { row := operOwnUptoRow, standIns := [], harness := (true, "18137ee6e96d52278827e9e9b9bbfa9753b909697e00f323138865490f39327c"), looks := true }, kinds := [], alts := [], laidByText := true, laidKinds := [.data, .data, .data, .data, .sentinel, .sentinel, .data, .data, .pinned, .pinned], laidTests := true, laidLooks := .later }
def OperOwnUptoCardSaid : Prop := Claim7.holds Tryz.pinned (.plain (OpenSpec.upto operOwnSpec)) operOwnUptoCard

/-- THE SECOND FORM's CARD OF 'concordlaw11.OperReads'. -/
def operReadsUptoCard : Claim7 := { stood := { row := operReadsUptoRow, standIns := [], harness := (true, "18137ee6e96d52278827e9e9b9bbfa9753b909697e00f323138865490f39327c"), looks := true }, kinds := [], alts := [], laidByText := true, laidKinds := [.data, .data, .data, .data, .sentinel, .sentinel, .data, .data, .pinned, .pinned], laidTests := true, laidLooks := .later }
def OperReadsUptoCardSaid : Prop := Claim7.holds Tryz.pinned (.plain (OpenSpec.upto operReadsSpec)) operReadsUptoCard
end Rows
end Go.Proofs.YtdejnaokkdndeaaGreatDoor
