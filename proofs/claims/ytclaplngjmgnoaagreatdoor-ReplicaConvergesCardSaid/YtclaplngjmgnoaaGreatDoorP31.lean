/- Part 31 of the proof: texts Y9b. -/
import Derived.Test.YtclaplngjmgnoaaGreatDoorP29
set_option linter.all false
namespace Go.Proofs.YtclaplngjmgnoaaGreatDoor
set_option maxRecDepth 100000
open Go.ChangeShapes Go.WideShapes Go.ChangeAt Go.RowKit Go.V
theorem kK : Tryz.pinned.checked.prog.funcNamed Rows.replicaConvergesRow.func = some 3 := by kernel_rfl
theorem kN : ((Tryz.pinned.checked.prog.closure 3).any fun g => (Tryz.pinned.checked.prog.funcs[g]?).any Func.goes) = false := by kernel_rfl
theorem kM : (Tryz.pinned.checked.prog.unfollowed 3 && Tryz.pinned.checked.prog.funcs.any Func.goes) = false := by kernel_rfl
theorem kL : Tryz.pinned.checked.prog.goes 3 = false := by unfold Program.goes; rw [kN, kM]; rfl
theorem i8 {P : Program} {s : String} {f : FuncId} (h : P.funcNamed s = some f) (hg : P.goes f = false) : false = P.goesAt .entering s := by
 unfold Program.goesAt Program.goesFrom
 rw [h]
 simp [hg]
theorem yT : false = Rows.replicaConvergesRow.goesBy Tryz.pinned.checked.prog := i8 kK kL
end Go.Proofs.YtclaplngjmgnoaaGreatDoor
