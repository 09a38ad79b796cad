/- Part 31 of the proof. -/
import Derived.Test.YtclaplngjmgnoaaGreatDoorP29
set_option linter.all false
namespace Go.Proofs.YtclaplngjmgnoaaGreatDoor
set_option maxRecDepth 100000
open Go.ChangeShapes Go.WideShapes Go.ChangeAt Go.RowKit Go.V
theorem qM : Tryz.pinned.checked.prog.funcNamed Rows.replicaGrowsRow.func = some 5 := by kernel_rfl
theorem qP : ((Tryz.pinned.checked.prog.closure 5).any fun g => (Tryz.pinned.checked.prog.funcs[g]?).any Func.goes) = false := by kernel_rfl
theorem qO : (Tryz.pinned.checked.prog.unfollowed 5 && Tryz.pinned.checked.prog.funcs.any Func.goes) = false := by kernel_rfl
theorem qN : Tryz.pinned.checked.prog.goes 5 = false := by unfold Program.goes; rw [qP,qO]; rfl
theorem oU {P : Program} {s : String} {f : FuncId} (h : P.funcNamed s = some f) (hg : P.goes f = false) : false = P.goesAt .entering s := by
 unfold Program.goesAt Program.goesFrom
 rw [h]
 simp [hg]
theorem aG4 : false = Rows.replicaGrowsRow.goesBy Tryz.pinned.checked.prog := oU qM qN
end Go.Proofs.YtclaplngjmgnoaaGreatDoor
