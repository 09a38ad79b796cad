/- Part 43 of the proof: texts K6Yl. -/
import Derived.Test.YtdejnaokkdndeaaGreatDoorP42
set_option linter.all false
namespace Go.Proofs.YtdejnaokkdndeaaGreatDoor
open Go.RowKit Go.V
set_option maxRecDepth 1000000 in
theorem runYl (m : Int) (a b c d : List (List D)) (rn rs : Int) : runY m a b c d rn rs (-1) 1 false = some (.c (.d (.b true)), csY a b c d rn rs (-1) 1 false) := by kernel_rfl
end Go.Proofs.YtdejnaokkdndeaaGreatDoor
