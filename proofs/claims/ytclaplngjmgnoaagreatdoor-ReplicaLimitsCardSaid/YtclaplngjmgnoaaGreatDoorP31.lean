/- Part 31 of the proof: texts Y6b. -/
import Derived.Test.YtclaplngjmgnoaaGreatDoorP29
set_option linter.all false
namespace Go.Proofs.YtclaplngjmgnoaaGreatDoor
open Go.ChangeShapes Go.WideShapes Go.ChangeAt Go.RowKit Go.V
set_option maxRecDepth 100000 in
theorem replicaLimits_goes : false = Rows.replicaLimitsRow.goesBy Tryz.pinned.checked.prog := by kernel_rfl
end Go.Proofs.YtclaplngjmgnoaaGreatDoor
