/- Part 4 of the proof: texts Eng4. -/
import Derived.Test.YtdejnaokkdndeaaGreatDoorP3
set_option linter.all false
namespace Go.Eng
open Go.RowKit
section
variable {P : Program} {n : Nat} {ops : Array Oper} {Q : Exit → Act → World → Prop} {w : World}
def resRun (tmps : Array Value) : ResultVar → Sem Value
 | .tmp t => pure (tmps.getD t undef)
 | .cell a t => do loadVar t (← asAddr (tmps.getD a undef))
theorem results_eq (fn : Func) (tmps : Array Value) : results fn tmps = (do let vs ← fn.results.mapM (resRun tmps); pure (if h : vs.size = 1 then vs[0] else .tuple vs)) := by
 have : (fun r => match r with | .tmp t => pure (tmps.getD t undef) | .cell x t => do loadVar t (← asAddr (tmps.getD x undef)) : ResultVar → Sem Value) = resRun tmps := by
  funext r; cases r <;> rfl
 unfold results
 rw [← this]
 rfl
end
end Go.Eng
