/- Part 37 of the proof. -/
import Derived.Test.YtclaplngjmgnoaaGreatDoorP36
set_option linter.all false
namespace Go.Proofs.YtclaplngjmgnoaaGreatDoor
open Go.RowKit Go.V
variable {g : Gv}
def OpS (g : Gv) (p q : List Int) (m k : Int) : Prop := ∀ n : Int,SX g 44 [.c (cI n),.c (cI m)] (.c (cI k)) -> SX g 87 [.agg g0C,.c (cM 1 (intsD p)),.c (cI n)] (.c (cM 1 (intsD q)))
theorem opX {p q : List Int} {m k : Int} (h : ∀ n : Int,xW (P := Tryz.prog) (G := Gl g) [a7 44 (.c (cI k))] [] [] nFQ nFQ 100000 60 87 [.agg g0C,.c (cM 1 (intsD p)),.c (cI n)] nFQ = some (.c (cM 1 (intsD q)),[SX g 44 [.c (cI n),.c (cI m)] (.c (cI k))])) : OpS g p q m k := fun n hn => sX _ _ _ (h n) hn
set_option maxRecDepth 100000
theorem aJ9 : OpS g [0] [-1] 1 0 := opX fun n => by kernel_rfl
theorem aJ8 : OpS g [1] [-1] 1 0 := opX fun n => by kernel_rfl
theorem aJ7 : OpS g [3,4] [-1] 2 0 := opX fun n => by kernel_rfl
theorem aJ6 : OpS g [3,4] [3,-1] 2 1 := opX fun n => by kernel_rfl
theorem aJ5 : OpS g [3,5] [-1] 2 0 := opX fun n => by kernel_rfl
theorem aJ4 : OpS g [3,5] [3,-1] 2 1 := opX fun n => by kernel_rfl
theorem aJ3 : OpS g [2,4,0] [-1] 3 0 := opX fun n => by kernel_rfl
theorem aJ2 : OpS g [2,4,0] [2,-1,0] 3 1 := opX fun n => by kernel_rfl
theorem aJ1 : OpS g [2,4,0] [2,4,-1] 3 2 := opX fun n => by kernel_rfl
theorem aJ0 : OpS g [2,4,1] [-1] 3 0 := opX fun n => by kernel_rfl
theorem aJZ : OpS g [2,4,1] [2,-1,1] 3 1 := opX fun n => by kernel_rfl
theorem aJY : OpS g [2,4,1] [2,4,-1] 3 2 := opX fun n => by kernel_rfl
theorem aJX : OpS g [2,5,0] [-1] 3 0 := opX fun n => by kernel_rfl
theorem aJW : OpS g [2,5,0] [2,-1,0] 3 1 := opX fun n => by kernel_rfl
theorem aJV : OpS g [2,5,0] [2,5,-1] 3 2 := opX fun n => by kernel_rfl
theorem aJU : OpS g [2,5,1] [-1] 3 0 := opX fun n => by kernel_rfl
theorem aJT : OpS g [2,5,1] [2,-1,1] 3 1 := opX fun n => by kernel_rfl
theorem aJS : OpS g [2,5,1] [2,5,-1] 3 2 := opX fun n => by kernel_rfl
theorem aJR : OpS g [3,6,4] [-1] 3 0 := opX fun n => by kernel_rfl
theorem aJQ : OpS g [3,6,4] [3,-1] 3 1 := opX fun n => by kernel_rfl
theorem aJP : OpS g [3,6,4] [3,6,-1] 3 2 := opX fun n => by kernel_rfl
theorem aJO : OpS g [3,6,5] [-1] 3 0 := opX fun n => by kernel_rfl
theorem aJN : OpS g [3,6,5] [3,-1] 3 1 := opX fun n => by kernel_rfl
theorem aJM : OpS g [3,6,5] [3,6,-1] 3 2 := opX fun n => by kernel_rfl
theorem aE9 : OpS g [2,4,3,4] [-1] 4 0 := opX fun n => by kernel_rfl
theorem aE8 : OpS g [2,4,3,4] [2,-1,3,4] 4 1 := opX fun n => by kernel_rfl
theorem aE7 : OpS g [2,4,3,4] [2,4,-1] 4 2 := opX fun n => by kernel_rfl
theorem aE6 : OpS g [2,4,3,4] [2,4,3,-1] 4 3 := opX fun n => by kernel_rfl
theorem aE5 : OpS g [2,4,3,5] [-1] 4 0 := opX fun n => by kernel_rfl
theorem aE4 : OpS g [2,4,3,5] [2,-1,3,5] 4 1 := opX fun n => by kernel_rfl
theorem aE3 : OpS g [2,4,3,5] [2,4,-1] 4 2 := opX fun n => by kernel_rfl
theorem aE2 : OpS g [2,4,3,5] [2,4,3,-1] 4 3 := opX fun n => by kernel_rfl
theorem aE1 : OpS g [2,5,3,4] [-1] 4 0 := opX fun n => by kernel_rfl
theorem aE0 : OpS g [2,5,3,4] [2,-1,3,4] 4 1 := opX fun n => by kernel_rfl
theorem aEZ : OpS g [2,5,3,4] [2,5,-1] 4 2 := opX fun n => by kernel_rfl
theorem aEY : OpS g [2,5,3,4] [2,5,3,-1] 4 3 := opX fun n => by kernel_rfl
theorem aEX : OpS g [2,5,3,5] [-1] 4 0 := opX fun n => by kernel_rfl
theorem aEW : OpS g [2,5,3,5] [2,-1,3,5] 4 1 := opX fun n => by kernel_rfl
theorem aEV : OpS g [2,5,3,5] [2,5,-1] 4 2 := opX fun n => by kernel_rfl
theorem aEU : OpS g [2,5,3,5] [2,5,3,-1] 4 3 := opX fun n => by kernel_rfl
theorem aET : OpS g [2,6,4,0] [-1] 4 0 := opX fun n => by kernel_rfl
theorem aES : OpS g [2,6,4,0] [2,-1,0] 4 1 := opX fun n => by kernel_rfl
theorem aER : OpS g [2,6,4,0] [2,6,-1,0] 4 2 := opX fun n => by kernel_rfl
theorem aEQ : OpS g [2,6,4,0] [2,6,4,-1] 4 3 := opX fun n => by kernel_rfl
theorem aEP : OpS g [2,6,4,1] [-1] 4 0 := opX fun n => by kernel_rfl
theorem aEO : OpS g [2,6,4,1] [2,-1,1] 4 1 := opX fun n => by kernel_rfl
theorem aEN : OpS g [2,6,4,1] [2,6,-1,1] 4 2 := opX fun n => by kernel_rfl
theorem aEM : OpS g [2,6,4,1] [2,6,4,-1] 4 3 := opX fun n => by kernel_rfl
theorem aEL : OpS g [2,6,5,0] [-1] 4 0 := opX fun n => by kernel_rfl
theorem aEK : OpS g [2,6,5,0] [2,-1,0] 4 1 := opX fun n => by kernel_rfl
theorem aEJ : OpS g [2,6,5,0] [2,6,-1,0] 4 2 := opX fun n => by kernel_rfl
theorem aEI : OpS g [2,6,5,0] [2,6,5,-1] 4 3 := opX fun n => by kernel_rfl
theorem aEH : OpS g [2,6,5,1] [-1] 4 0 := opX fun n => by kernel_rfl
theorem aEG : OpS g [2,6,5,1] [2,-1,1] 4 1 := opX fun n => by kernel_rfl
theorem aEF : OpS g [2,6,5,1] [2,6,-1,1] 4 2 := opX fun n => by kernel_rfl
theorem aEE : OpS g [2,6,5,1] [2,6,5,-1] 4 3 := opX fun n => by kernel_rfl
end Go.Proofs.YtclaplngjmgnoaaGreatDoor
