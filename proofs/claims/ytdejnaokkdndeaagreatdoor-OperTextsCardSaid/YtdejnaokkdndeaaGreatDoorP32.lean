/- Part 32 of the proof: texts Y5b. -/
import Derived.Test.YtdejnaokkdndeaaGreatDoorP30
set_option linter.all false
namespace Go.Proofs.YtdejnaokkdndeaaGreatDoor
open Go.ChangeShapes Go.WideShapes Go.ChangeAt Go.RowKit Go.V
set_option maxRecDepth 100000 in
theorem tZ : Tryz.pinned.checked.prog.funcNamed Rows.operTextsRow.func = some 6 := by kernel_rfl
set_option maxRecDepth 100000 in
theorem uA : ((Tryz.pinned.checked.prog.closure 6).any fun g => (Tryz.pinned.checked.prog.funcs[g]?).any Func.goes) = false := by kernel_rfl
set_option maxRecDepth 100000 in
theorem t8 : (Tryz.pinned.checked.prog.unfollowed 6 && Tryz.pinned.checked.prog.funcs.any Func.goes) = false := by kernel_rfl
theorem t7 : Tryz.pinned.checked.prog.goes 6 = false := by unfold Program.goes; rw [uA, t8]; rfl
theorem rD {P : Program} {s : String} {f : FuncId} (h : P.funcNamed s = some f) (hg : P.goes f = false) : false = P.goesAt .entering s := by
 unfold Program.goesAt Program.goesFrom
 rw [h]
 simp [hg]
set_option maxRecDepth 100000 in
theorem aGP : false = Rows.operTextsRow.goesBy Tryz.pinned.checked.prog := rD tZ t7
end Go.Proofs.YtdejnaokkdndeaaGreatDoor
