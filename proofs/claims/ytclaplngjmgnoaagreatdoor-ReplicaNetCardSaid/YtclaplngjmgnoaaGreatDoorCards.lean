/-
  DERIVED. GIVEN WITH THE SEED: THE CARDS: each row of YtclaplngjmgnoaaGreatDoorRows.lean that lists a variable, with what it lists TIED to the program's text (the seventh form; the later family's looks); each row that meets fmt, with fmt's text TOLD by the authors' own Lean function (tested against real Go, not proved from fmt's source: count such statements apart). THE CARD IS WHAT COUNTS. Prove the row's statement (the work); the ties are given (YtclaplngjmgnoaaGreatDoorTie.lean); close each card by the builder's one call (the guide's Derived/Test/ToyasCard.lean, 'card_holds'). Laid BY PROGRAM, IN A SANDBOX (cutbox-door.mjs). By AI agents, Wed Nov 11 2026. No macro, syntax, notation, axiom, sorry.
-/
import Derived.Test.YtclaplngjmgnoaaGreatDoorRows
import GoSem.ClaimSeven
namespace Go.Proofs.YtclaplngjmgnoaaGreatDoor
namespace Rows

/-- THE TIED CARD OF 'concordlaw33.ReplicaConverges'. -/
def replicaConvergesCard : Claim7 := { stood := { row := replicaConvergesRow, standIns := [], harness := (true, "bc2a947b297b4a1b2eb73d2096b387745d262b0e77ef221dc73f571c941a6df1"), looks := true }, kinds := [], alts := [], laidByText := true, laidKinds := [.data, .data, .data, .data, .sentinel, .sentinel, .data, .pinned], laidTests := true, laidLooks := .later }
def ReplicaConvergesCardSaid : Prop := Claim7.holds Tryz.pinned (.plain (OpenSpec.ofChange replicaConvergesSpec)) replicaConvergesCard

/-- THE TIED CARD OF 'concordlaw33.ReplicaOrder'. -/
def replicaOrderCard : Claim7 := { stood := { row := replicaOrderRow, standIns := [], harness := (true, "bc2a947b297b4a1b2eb73d2096b387745d262b0e77ef221dc73f571c941a6df1"), looks := true }, kinds := [], alts := [], laidByText := true, laidKinds := [.data, .data, .data, .data, .sentinel, .sentinel, .data, .pinned], laidTests := true, laidLooks := .later }
def ReplicaOrderCardSaid : Prop := Claim7.holds Tryz.pinned (.plain (OpenSpec.ofChange replicaOrderSpec)) replicaOrderCard

/-- THE TIED CARD OF 'concordlaw33.ReplicaGrows'. -/
def replicaGrowsCard : Claim7 := { stood := { row := replicaGrowsRow, standIns := [], harness := (true, "bc2a947b297b4a1b2eb73d2096b387745d262b0e77ef221dc73f571c941a6df1"), looks := true }, kinds := [], alts := [], laidByText := true, laidKinds := [.data, .data, .data, .data, .sentinel, .sentinel, .data, .pinned], laidTests := true, laidLooks := .later }
def ReplicaGrowsCardSaid : Prop := Claim7.holds Tryz.pinned (.plain (OpenSpec.ofChange replicaGrowsSpec)) replicaGrowsCard

/-- THE TIED CARD OF 'concordlaw33.ReplicaAlone'. -/
def replicaAloneCard : Claim7 := { stood := { row := replicaAloneRow, standIns := [], harness := (true, "bc2a947b297b4a1b2eb73d2096b387745d262b0e77ef221dc73f571c941a6df1"), looks := true }, kinds := [], alts := [], laidByText := true, laidKinds := [.data, .data, .data, .data, .sentinel, .sentinel, .data, .pinned], laidTests := true, laidLooks := .later }
def ReplicaAloneCardSaid : Prop := Claim7.holds Tryz.pinned (.plain (OpenSpec.ofChange replicaAloneSpec)) replicaAloneCard

/-- THE TIED CARD OF 'concordlaw33.ReplicaLimits'. -/
def replicaLimitsCard : Claim7 := { stood := { row := replicaLimitsRow, standIns := [], harness := (true, "bc2a947b297b4a1b2eb73d2096b387745d262b0e77ef221dc73f571c941a6df1"), looks := true }, kinds := [], alts := [], laidByText := true, laidKinds := [.data, .data, .data, .data, .sentinel, .sentinel, .data, .pinned], laidTests := true, laidLooks := .later }
def ReplicaLimitsCardSaid : Prop := Claim7.holds Tryz.pinned (.plain (OpenSpec.ofChange replicaLimitsSpec)) replicaLimitsCard

/-- THE TIED CARD OF 'concordlaw33.ReplicaNil'. -/
def replicaNilCard : Claim7 := { stood := { row := replicaNilRow, standIns := [], harness := (true, "bc2a947b297b4a1b2eb73d2096b387745d262b0e77ef221dc73f571c941a6df1"), looks := true }, kinds := [], alts := [], laidByText := true, laidKinds := [.data, .data, .data, .data, .sentinel, .sentinel, .data, .pinned], laidTests := true, laidLooks := .later }
def ReplicaNilCardSaid : Prop := Claim7.holds Tryz.pinned (.plain (OpenSpec.ofChange replicaNilSpec)) replicaNilCard

/-- THE TIED CARD OF 'concordlaw33.ReplicaNet'. -/
def replicaNetCard : Claim7 := { stood := { row := replicaNetRow, standIns := [], harness := (true, "bc2a947b297b4a1b2eb73d2096b387745d262b0e77ef221dc73f571c941a6df1"), looks := true }, kinds := [], alts := [], laidByText := true, laidKinds := [.data, .data, .data, .data, .sentinel, .sentinel, .data, .pinned], laidTests := true, laidLooks := .later }
def ReplicaNetCardSaid : Prop := Claim7.holds Tryz.pinned (.plain (OpenSpec.ofChange replicaNetSpec)) replicaNetCard

/-- THE SECOND FORM's CARD OF 'concordlaw33.ReplicaConverges'. -/
def replicaConvergesUptoCard : Claim7 := { stood := { row := replicaConvergesUptoRow, standIns := [], harness := (true, "bc2a947b297b4a1b2eb73d2096b387745d262b0e77ef221dc73f571c941a6df1"), looks := true }, kinds := [], alts := [], laidByText := true, laidKinds := [.data, .data, .data, .data, .sentinel, .sentinel, .data, .pinned], laidTests := true, laidLooks := .later }
def ReplicaConvergesUptoCardSaid : Prop := Claim7.holds Tryz.pinned (.plain (OpenSpec.upto replicaConvergesSpec)) replicaConvergesUptoCard

/-- THE SECOND FORM's CARD OF 'concordlaw33.ReplicaOrder'. -/
def replicaOrderUptoCard : Claim7 := { stood := { row := replicaOrderUptoRow, standIns := [], harness := (true, "bc2a947b297b4a1b2eb73d2096b387745d262b0e77ef221dc73f571c941a6df1"), looks := true }, kinds := [], alts := [], laidByText := true, laidKinds := [.data, .data, .data, .data, .sentinel, .sentinel, .data, .pinned], laidTests := true, laidLooks := .later }
def ReplicaOrderUptoCardSaid : Prop := Claim7.holds Tryz.pinned (.plain (OpenSpec.upto replicaOrderSpec)) replicaOrderUptoCard

/-- THE SECOND FORM's CARD OF 'concordlaw33.ReplicaGrows'. -/
def replicaGrowsUptoCard : Claim7 := { stood := { row := replicaGrowsUptoRow, standIns := [], harness := (true, "bc2a947b297b4a1b2eb73d2096b387745d262b0e77ef221dc73f571c941a6df1"), looks := true }, kinds := [], alts := [], laidByText := true, laidKinds := [.data, .data, .data, .data, .sentinel, .sentinel, .data, .pinned], laidTests := true, laidLooks := .later }
def ReplicaGrowsUptoCardSaid : Prop := Claim7.holds Tryz.pinned (.plain (OpenSpec.upto replicaGrowsSpec)) replicaGrowsUptoCard

/-- THE SECOND FORM's CARD OF 'concordlaw33.ReplicaAlone'. -/
def replicaAloneUptoCard : Claim7 := { stood := { row := replicaAloneUptoRow, standIns := [], harness := (true, "bc2a947b297b4a1b2eb73d2096b387745d262b0e77ef221dc73f571c941a6df1"), looks := true }, kinds := [], alts := [], laidByText := true, laidKinds := [.data, .data, .data, .data, .sentinel, .sentinel, .data, .pinned], laidTests := true, laidLooks := .later }
def ReplicaAloneUptoCardSaid : Prop := Claim7.holds Tryz.pinned (.plain (OpenSpec.upto replicaAloneSpec)) replicaAloneUptoCard

/-- THE SECOND FORM's CARD OF 'concordlaw33.ReplicaLimits'. -/
def replicaLimitsUptoCard : Claim7 := { stood := { row := replicaLimitsUptoRow, standIns := [], harness := (true, "bc2a947b297b4a1b2eb73d2096b387745d262b0e77ef221dc73f571c941a6df1"), looks := true }, kinds := [], alts := [], laidByText := true, laidKinds := [.data, .data, .data, .data, .sentinel, .sentinel, .data, .pinned], laidTests := true, laidLooks := .later }
def ReplicaLimitsUptoCardSaid : Prop := Claim7.holds Tryz.pinned (.plain (OpenSpec.upto replicaLimitsSpec)) replicaLimitsUptoCard

/-- THE SECOND FORM's CARD OF 'concordlaw33.ReplicaNil'. -/
def replicaNilUptoCard : Claim7 := { stood := { row := replicaNilUptoRow, standIns := [], harness := (true, "bc2a947b297b4a1b2eb73d2096b387745d262b0e77ef221dc73f571c941a6df1"), looks := true }, kinds := [], alts := [], laidByText := true, laidKinds := [.data, .data, .data, .data, .sentinel, .sentinel, .data, .pinned], laidTests := true, laidLooks := .later }
def ReplicaNilUptoCardSaid : Prop := Claim7.holds Tryz.pinned (.plain (OpenSpec.upto replicaNilSpec)) replicaNilUptoCard

/-- THE SECOND FORM's CARD OF 'concordlaw33.ReplicaNet'. -/
def replicaNetUptoCard : Claim7 := { stood := { row := replicaNetUptoRow, standIns := [], harness := (true, "bc2a947b297b4a1b2eb73d2096b387745d262b0e77ef221dc73f571c941a6df1"), looks := true }, kinds := [], alts := [], laidByText := true, laidKinds := [.data, .data, .data, .data, .sentinel, .sentinel, .data, .pinned], laidTests := true, laidLooks := .later }
def ReplicaNetUptoCardSaid : Prop := Claim7.holds Tryz.pinned (.plain (OpenSpec.upto replicaNetSpec)) replicaNetUptoCard
end Rows
end Go.Proofs.YtclaplngjmgnoaaGreatDoor
