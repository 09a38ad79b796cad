/- Part 31 of the proof: texts Y4b. -/
import Derived.Test.YtdejnaokkdndeaaGreatDoorP29
set_option linter.all false
namespace Go.Proofs.YtdejnaokkdndeaaGreatDoor
open Go.ChangeShapes Go.WideShapes Go.ChangeAt Go.RowKit Go.V
set_option maxRecDepth 100000 in
theorem operStrict_goes : false = Rows.operStrictRow.goesBy Tryz.pinned.checked.prog := by kernel_rfl
end Go.Proofs.YtdejnaokkdndeaaGreatDoor
