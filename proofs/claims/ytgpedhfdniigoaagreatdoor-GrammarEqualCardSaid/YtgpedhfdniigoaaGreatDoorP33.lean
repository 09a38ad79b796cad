/- Part 33 of the proof. -/
import Derived.Test.YtgpedhfdniigoaaGreatDoorP31
set_option linter.all false
namespace Go.Proofs.YtgpedhfdniigoaaGreatDoor
set_option maxRecDepth 100000
open Go.ChangeShapes Go.WideShapes Go.ChangeAt Go.RowKit Go.V
theorem qM : Tryz.pinned.checked.prog.funcNamed Rows.grammarEqualRow.func = some 7 := by kernel_rfl
theorem qP : ((Tryz.pinned.checked.prog.closure 7).any fun g => (Tryz.pinned.checked.prog.funcs[g]?).any Func.goes) = false := by kernel_rfl
theorem qO : (Tryz.pinned.checked.prog.unfollowed 7 && Tryz.pinned.checked.prog.funcs.any Func.goes) = false := by kernel_rfl
theorem qN : Tryz.pinned.checked.prog.goes 7 = false := by unfold Program.goes; rw [qP,qO]; rfl
theorem oB {P : Program} {s : String} {f : FuncId} (h : P.funcNamed s = some f) (hg : P.goes f = false) : false = P.goesAt .entering s := by
 unfold Program.goesAt Program.goesFrom
 rw [h]
 simp [hg]
theorem aHF : false = Rows.grammarEqualRow.goesBy Tryz.pinned.checked.prog := oB qM qN
end Go.Proofs.YtgpedhfdniigoaaGreatDoor
