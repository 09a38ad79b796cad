/- Part 47 of the proof: texts K6Ze. -/
import Derived.Test.YtdejnaokkdndeaaGreatDoorP46
set_option linter.all false
namespace Go.Proofs.YtdejnaokkdndeaaGreatDoor
open Go.RowKit Go.V
set_option maxRecDepth 1000000 in
theorem runZe (m : Int) (a b c d : List (List D)) : runZ m a b c d 0 0 true = some (.c (.d (.b true)), csZ a b c d 0 0 true) := by kernel_rfl
end Go.Proofs.YtdejnaokkdndeaaGreatDoor
