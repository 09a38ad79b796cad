/- Part 6 of the proof: texts Eng6. -/
import Derived.Test.YtdejnaokkdndeaaGreatDoorP5
set_option linter.all false
namespace Go.Eng
open Go.RowKit
section
variable {P : Program} {n : Nat} {ops : Array Oper} {Q : Exit → Act → World → Prop} {w : World}
end
section
variable {P : Program} {w w' : World} {e : TypeId} {sz n : Nat} {A : Option Addr} {xs : List Value}
end
end Go.Eng
