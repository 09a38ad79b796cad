/- Part 5 of the proof: texts Eng5. -/
import Derived.Test.YtdejnaokkdndeaaGreatDoorP4
import Derived.Deep.RegionHeld3
set_option linter.all false
namespace Go.Eng
open Go.RowKit
section
variable {P : Program} {n : Nat} {ops : Array Oper} {Q : Exit → Act → World → Prop} {S : World → Prop} {w : World}
end
end Go.Eng
