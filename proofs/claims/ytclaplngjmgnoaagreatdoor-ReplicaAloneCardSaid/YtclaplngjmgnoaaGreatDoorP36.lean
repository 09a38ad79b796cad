/- Part 36 of the proof: texts U33c. -/
import Derived.Test.YtclaplngjmgnoaaGreatDoorP35
set_option linter.all false
namespace Go.Proofs.YtclaplngjmgnoaaGreatDoor
open Go.RowKit Go.V
variable {g : Gv}
def OpS (g : Gv) (p q : List Int) (m k : Int) : Prop := ∀ n : Int, SX g 44 [.c (cI n), .c (cI m)] (.c (cI k)) -> SX g 87 [.agg g0C, .c (cM 1 (intsD p)), .c (cI n)] (.c (cM 1 (intsD q)))
theorem opX {p q : List Int} {m k : Int} (h : ∀ n : Int, vW (P := Tryz.prog) (G := Gl g) [aV 44 (.c (cI k))] [] [] nFQ nFQ 100000 60 87 [.agg g0C, .c (cM 1 (intsD p)), .c (cI n)] nFQ = some (.c (cM 1 (intsD q)), [SX g 44 [.c (cI n), .c (cI m)] (.c (cI k))])) : OpS g p q m k := fun n hn => sX _ _ _ (h n) hn
set_option maxRecDepth 100000
theorem aIB : OpS g [0] [-1] 1 0 := opX fun n => by kernel_rfl
theorem aIA : OpS g [1] [-1] 1 0 := opX fun n => by kernel_rfl
theorem aH9 : OpS g [3, 4] [-1] 2 0 := opX fun n => by kernel_rfl
theorem aH8 : OpS g [3, 4] [3, -1] 2 1 := opX fun n => by kernel_rfl
theorem aH7 : OpS g [3, 5] [-1] 2 0 := opX fun n => by kernel_rfl
theorem aH6 : OpS g [3, 5] [3, -1] 2 1 := opX fun n => by kernel_rfl
theorem aH5 : OpS g [2, 4, 0] [-1] 3 0 := opX fun n => by kernel_rfl
theorem aH4 : OpS g [2, 4, 0] [2, -1, 0] 3 1 := opX fun n => by kernel_rfl
theorem aH3 : OpS g [2, 4, 0] [2, 4, -1] 3 2 := opX fun n => by kernel_rfl
theorem aH2 : OpS g [2, 4, 1] [-1] 3 0 := opX fun n => by kernel_rfl
theorem aH1 : OpS g [2, 4, 1] [2, -1, 1] 3 1 := opX fun n => by kernel_rfl
theorem aH0 : OpS g [2, 4, 1] [2, 4, -1] 3 2 := opX fun n => by kernel_rfl
theorem aHZ : OpS g [2, 5, 0] [-1] 3 0 := opX fun n => by kernel_rfl
theorem aHY : OpS g [2, 5, 0] [2, -1, 0] 3 1 := opX fun n => by kernel_rfl
theorem aHX : OpS g [2, 5, 0] [2, 5, -1] 3 2 := opX fun n => by kernel_rfl
theorem aHW : OpS g [2, 5, 1] [-1] 3 0 := opX fun n => by kernel_rfl
theorem aHV : OpS g [2, 5, 1] [2, -1, 1] 3 1 := opX fun n => by kernel_rfl
theorem aHU : OpS g [2, 5, 1] [2, 5, -1] 3 2 := opX fun n => by kernel_rfl
theorem aHT : OpS g [3, 6, 4] [-1] 3 0 := opX fun n => by kernel_rfl
theorem aHS : OpS g [3, 6, 4] [3, -1] 3 1 := opX fun n => by kernel_rfl
theorem aHR : OpS g [3, 6, 4] [3, 6, -1] 3 2 := opX fun n => by kernel_rfl
theorem aHQ : OpS g [3, 6, 5] [-1] 3 0 := opX fun n => by kernel_rfl
theorem aHP : OpS g [3, 6, 5] [3, -1] 3 1 := opX fun n => by kernel_rfl
theorem aHO : OpS g [3, 6, 5] [3, 6, -1] 3 2 := opX fun n => by kernel_rfl
theorem aDA : OpS g [2, 4, 3, 4] [-1] 4 0 := opX fun n => by kernel_rfl
theorem aC9 : OpS g [2, 4, 3, 4] [2, -1, 3, 4] 4 1 := opX fun n => by kernel_rfl
theorem aC8 : OpS g [2, 4, 3, 4] [2, 4, -1] 4 2 := opX fun n => by kernel_rfl
theorem aC7 : OpS g [2, 4, 3, 4] [2, 4, 3, -1] 4 3 := opX fun n => by kernel_rfl
theorem aC6 : OpS g [2, 4, 3, 5] [-1] 4 0 := opX fun n => by kernel_rfl
theorem aC5 : OpS g [2, 4, 3, 5] [2, -1, 3, 5] 4 1 := opX fun n => by kernel_rfl
theorem aC4 : OpS g [2, 4, 3, 5] [2, 4, -1] 4 2 := opX fun n => by kernel_rfl
theorem aC3 : OpS g [2, 4, 3, 5] [2, 4, 3, -1] 4 3 := opX fun n => by kernel_rfl
theorem aC2 : OpS g [2, 5, 3, 4] [-1] 4 0 := opX fun n => by kernel_rfl
theorem aC1 : OpS g [2, 5, 3, 4] [2, -1, 3, 4] 4 1 := opX fun n => by kernel_rfl
theorem aC0 : OpS g [2, 5, 3, 4] [2, 5, -1] 4 2 := opX fun n => by kernel_rfl
theorem aCZ : OpS g [2, 5, 3, 4] [2, 5, 3, -1] 4 3 := opX fun n => by kernel_rfl
theorem aCY : OpS g [2, 5, 3, 5] [-1] 4 0 := opX fun n => by kernel_rfl
theorem aCX : OpS g [2, 5, 3, 5] [2, -1, 3, 5] 4 1 := opX fun n => by kernel_rfl
theorem aCW : OpS g [2, 5, 3, 5] [2, 5, -1] 4 2 := opX fun n => by kernel_rfl
theorem aCV : OpS g [2, 5, 3, 5] [2, 5, 3, -1] 4 3 := opX fun n => by kernel_rfl
theorem aCU : OpS g [2, 6, 4, 0] [-1] 4 0 := opX fun n => by kernel_rfl
theorem aCT : OpS g [2, 6, 4, 0] [2, -1, 0] 4 1 := opX fun n => by kernel_rfl
theorem aCS : OpS g [2, 6, 4, 0] [2, 6, -1, 0] 4 2 := opX fun n => by kernel_rfl
theorem aCR : OpS g [2, 6, 4, 0] [2, 6, 4, -1] 4 3 := opX fun n => by kernel_rfl
theorem aCQ : OpS g [2, 6, 4, 1] [-1] 4 0 := opX fun n => by kernel_rfl
theorem aCP : OpS g [2, 6, 4, 1] [2, -1, 1] 4 1 := opX fun n => by kernel_rfl
theorem aCO : OpS g [2, 6, 4, 1] [2, 6, -1, 1] 4 2 := opX fun n => by kernel_rfl
theorem aCN : OpS g [2, 6, 4, 1] [2, 6, 4, -1] 4 3 := opX fun n => by kernel_rfl
theorem aCM : OpS g [2, 6, 5, 0] [-1] 4 0 := opX fun n => by kernel_rfl
theorem aCL : OpS g [2, 6, 5, 0] [2, -1, 0] 4 1 := opX fun n => by kernel_rfl
theorem aCK : OpS g [2, 6, 5, 0] [2, 6, -1, 0] 4 2 := opX fun n => by kernel_rfl
theorem aCJ : OpS g [2, 6, 5, 0] [2, 6, 5, -1] 4 3 := opX fun n => by kernel_rfl
theorem aCI : OpS g [2, 6, 5, 1] [-1] 4 0 := opX fun n => by kernel_rfl
theorem aCH : OpS g [2, 6, 5, 1] [2, -1, 1] 4 1 := opX fun n => by kernel_rfl
theorem aCG : OpS g [2, 6, 5, 1] [2, 6, -1, 1] 4 2 := opX fun n => by kernel_rfl
theorem aCF : OpS g [2, 6, 5, 1] [2, 6, 5, -1] 4 3 := opX fun n => by kernel_rfl
end Go.Proofs.YtclaplngjmgnoaaGreatDoor
