/- Part 46 of the proof: texts K6Zl. -/
import Derived.Test.YtdejnaokkdndeaaGreatDoorP45
set_option linter.all false
namespace Go.Proofs.YtdejnaokkdndeaaGreatDoor
open Go.RowKit Go.V
set_option maxRecDepth 1000000 in
theorem runZl (m : Int) (a b c d : List (List D)) : runZ m a b c d (-1) 1 false = some (.c (.d (.b true)), csZ a b c d (-1) 1 false) := by kernel_rfl
end Go.Proofs.YtdejnaokkdndeaaGreatDoor
