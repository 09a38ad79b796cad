/- Part 44 of the proof: texts K6Ye. -/
import Derived.Test.YtdejnaokkdndeaaGreatDoorP43
set_option linter.all false
namespace Go.Proofs.YtdejnaokkdndeaaGreatDoor
open Go.RowKit Go.V
set_option maxRecDepth 1000000 in
theorem runYe (m : Int) (a b c d : List (List D)) (rn rs : Int) : runY m a b c d rn rs 0 0 true = some (.c (.d (.b true)), csY a b c d rn rs 0 0 true) := by kernel_rfl
end Go.Proofs.YtdejnaokkdndeaaGreatDoor
