/- Part 7 of the proof: texts Eng7. -/
import Derived.Test.YtdejnaokkdndeaaGreatDoorP6
import Derived.Maps.AppendAt
import Derived.Deep.AppendLies
set_option linter.all false
namespace Go.Eng
open Go.RowKit
section
variable {P : Program} {w w' : World} {B : Nat} {e : TypeId} {sz n c : Nat} {A : Option Addr} {xs : List Value}
end
section
variable {P : Program} {nn : Nat} {ops : Array Oper} {Q : Exit → Act → World → Prop} {w : World}
end
end Go.Eng
