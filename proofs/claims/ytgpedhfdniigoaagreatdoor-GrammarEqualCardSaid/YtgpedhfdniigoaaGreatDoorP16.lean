/- Part 16 of the proof. -/
import Derived.Test.YtgpedhfdniigoaaGreatDoorP15
import Derived.Maps.RangeRun
set_option linter.all false
namespace Go.V
open Go.RowKit
section
variable {α β : Type} [DecidableEq α]
variable {P : Program} {w : World} {enc : α -> Value} {encv : β -> Value} {kd : TypeDesc} {T kt et : TypeId} {b : Nat} {ents : Array MapEntry} {clock : Nat} {es : List (α × β)}
end
section
variable {P : Program} {fr : Fr} {own : Own} {a : Act} {w w' : World} {pl : Pl} {o : Oper} {p : Path} {lk : Lk}
end
end Go.V
