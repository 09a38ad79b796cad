/- Part 31 of the proof: texts YAb. -/
import Derived.Test.YtclaplngjmgnoaaGreatDoorP29
set_option linter.all false
namespace Go.Proofs.YtclaplngjmgnoaaGreatDoor
set_option maxRecDepth 100000
open Go.ChangeShapes Go.WideShapes Go.ChangeAt Go.RowKit Go.V
theorem pU : Tryz.pinned.checked.prog.funcNamed Rows.replicaOrderRow.func = some 4 := by kernel_rfl
theorem pX : ((Tryz.pinned.checked.prog.closure 4).any fun g => (Tryz.pinned.checked.prog.funcs[g]?).any Func.goes) = false := by kernel_rfl
theorem pW : (Tryz.pinned.checked.prog.unfollowed 4 && Tryz.pinned.checked.prog.funcs.any Func.goes) = false := by kernel_rfl
theorem pV : Tryz.pinned.checked.prog.goes 4 = false := by unfold Program.goes; rw [pX, pW]; rfl
theorem nS {P : Program} {s : String} {f : FuncId} (h : P.funcNamed s = some f) (hg : P.goes f = false) : false = P.goesAt .entering s := by
 unfold Program.goesAt Program.goesFrom
 rw [h]
 simp [hg]
theorem aE8 : false = Rows.replicaOrderRow.goesBy Tryz.pinned.checked.prog := nS pU pV
end Go.Proofs.YtclaplngjmgnoaaGreatDoor
