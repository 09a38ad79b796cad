/- Part 34 of the proof. -/
import Derived.Test.YtclaplngjmgnoaaGreatDoorP32
set_option linter.all false
namespace Go.Proofs.YtclaplngjmgnoaaGreatDoor
set_option maxRecDepth 100000
open Go.ChangeShapes Go.WideShapes Go.ChangeAt Go.RowKit Go.V
theorem uS : Tryz.pinned.checked.prog.funcNamed Rows.replicaNetRow.func = some 9 := by kernel_rfl
theorem uV : ((Tryz.pinned.checked.prog.closure 9).any fun g => (Tryz.pinned.checked.prog.funcs[g]?).any Func.goes) = false := by kernel_rfl
theorem uU : (Tryz.pinned.checked.prog.unfollowed 9 && Tryz.pinned.checked.prog.funcs.any Func.goes) = false := by kernel_rfl
theorem uT : Tryz.pinned.checked.prog.goes 9 = false := by unfold Program.goes; rw [uV,uU]; rfl
theorem sL {P : Program} {s : String} {f : FuncId} (h : P.funcNamed s = some f) (hg : P.goes f = false) : false = P.goesAt .entering s := by
 unfold Program.goesAt Program.goesFrom;rw [h];simp [hg]
theorem aLA : false = Rows.replicaNetRow.goesBy Tryz.pinned.checked.prog := sL uS uT
end Go.Proofs.YtclaplngjmgnoaaGreatDoor
