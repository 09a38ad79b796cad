/- Part 30 of the proof: texts U14b, U14c. -/
import Derived.Test.YtfedkhjbkiillaaGreatDoorP29
set_option linter.all false
namespace Go.Proofs.YtfedkhjbkiillaaGreatDoor
open Go
theorem tieG : ∀ os tape, varsDone Tryz.prog 400 (varsId Tryz.prog) os tape = true := fun _ _ => by kernel_rfl
end Go.Proofs.YtfedkhjbkiillaaGreatDoor
namespace Go.Proofs.YtfedkhjbkiillaaGreatDoor
open Go
theorem tieH : ∀ os tape, (DataW.laidRun Tryz.prog (varsWorld Tryz.prog 400 (varsId Tryz.prog) os tape).memory 8 (ldl.map (·.1))).map (·.1) = some ldl := fun _ _ => by kernel_rfl
end Go.Proofs.YtfedkhjbkiillaaGreatDoor
