/- Part 31 of the proof: texts Y8b. -/
import Derived.Test.YtclaplngjmgnoaaGreatDoorP29
set_option linter.all false
namespace Go.Proofs.YtclaplngjmgnoaaGreatDoor
set_option maxRecDepth 100000
open Go.ChangeShapes Go.WideShapes Go.ChangeAt Go.RowKit Go.V
theorem pM : Tryz.pinned.checked.prog.funcNamed Rows.replicaAloneRow.func = some 6 := by kernel_rfl
theorem pP : ((Tryz.pinned.checked.prog.closure 6).any fun g => (Tryz.pinned.checked.prog.funcs[g]?).any Func.goes) = false := by kernel_rfl
theorem pO : (Tryz.pinned.checked.prog.unfollowed 6 && Tryz.pinned.checked.prog.funcs.any Func.goes) = false := by kernel_rfl
theorem pN : Tryz.pinned.checked.prog.goes 6 = false := by unfold Program.goes; rw [pP, pO]; rfl
theorem nI {P : Program} {s : String} {f : FuncId} (h : P.funcNamed s = some f) (hg : P.goes f = false) : false = P.goesAt .entering s := by
 unfold Program.goesAt Program.goesFrom
 rw [h]
 simp [hg]
theorem aEW : false = Rows.replicaAloneRow.goesBy Tryz.pinned.checked.prog := nI pM pN
end Go.Proofs.YtclaplngjmgnoaaGreatDoor
