/- Part 37 of the proof: texts Y1b. -/
import Derived.Test.YtdejnaokkdndeaaGreatDoorP36
set_option linter.all false
namespace Go.Proofs.YtdejnaokkdndeaaGreatDoor
open Go.ChangeShapes Go.WideShapes Go.ChangeAt Go.RowKit Go.V
set_option maxRecDepth 100000 in
theorem operNumbers_goes : false = Rows.operNumbersRow.goesBy Tryz.pinned.checked.prog := by kernel_rfl
end Go.Proofs.YtdejnaokkdndeaaGreatDoor
