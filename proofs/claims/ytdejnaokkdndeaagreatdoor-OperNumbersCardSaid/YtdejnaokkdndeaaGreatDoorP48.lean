/- Part 48 of the proof: texts K6Zg. -/
import Derived.Test.YtdejnaokkdndeaaGreatDoorP47
set_option linter.all false
namespace Go.Proofs.YtdejnaokkdndeaaGreatDoor
open Go.RowKit Go.V
set_option maxRecDepth 1000000 in
theorem runZg (m : Int) (a b c d : List (List D)) : runZ m a b c d 1 (-1) false = some (.c (.d (.b true)), csZ a b c d 1 (-1) false) := by kernel_rfl
end Go.Proofs.YtdejnaokkdndeaaGreatDoor
