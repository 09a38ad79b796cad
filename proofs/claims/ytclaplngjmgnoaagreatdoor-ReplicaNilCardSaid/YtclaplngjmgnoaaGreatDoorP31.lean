/- Part 31 of the proof: texts Y7b. -/
import Derived.Test.YtclaplngjmgnoaaGreatDoorP29
set_option linter.all false
namespace Go.Proofs.YtclaplngjmgnoaaGreatDoor
open Go.ChangeShapes Go.WideShapes Go.ChangeAt Go.RowKit Go.V
set_option maxRecDepth 100000 in
theorem sY : Tryz.pinned.checked.prog.funcNamed Rows.replicaNilRow.func = some 8 := by kernel_rfl
set_option maxRecDepth 100000 in
theorem s4 : ((Tryz.pinned.checked.prog.closure 8).any fun g => (Tryz.pinned.checked.prog.funcs[g]?).any Func.goes) = false := by kernel_rfl
set_option maxRecDepth 100000 in
theorem s3 : (Tryz.pinned.checked.prog.unfollowed 8 && Tryz.pinned.checked.prog.funcs.any Func.goes) = false := by kernel_rfl
theorem sZ : Tryz.pinned.checked.prog.goes 8 = false := by unfold Program.goes; rw [s4, s3]; rfl
theorem qL {P : Program} {s : String} {f : FuncId} (h : P.funcNamed s = some f) (hg : P.goes f = false) : false = P.goesAt .entering s := by
 unfold Program.goesAt Program.goesFrom
 rw [h]
 simp [hg]
set_option maxRecDepth 100000 in
theorem aI7 : false = Rows.replicaNilRow.goesBy Tryz.pinned.checked.prog := qL sY sZ
end Go.Proofs.YtclaplngjmgnoaaGreatDoor
