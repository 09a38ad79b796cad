/- Part 3 of the proof: texts Eng3. -/
import Derived.Test.YtdejnaokkdndeaaGreatDoorP2
import Derived.Deep.LoopGhost
set_option linter.all false
namespace Go.Eng
open Go.RowKit
section
variable {P : Program} {n : Nat} {ops : Array Oper} {Q : Exit → Act → World → Prop} {w : World}
end
end Go.Eng
