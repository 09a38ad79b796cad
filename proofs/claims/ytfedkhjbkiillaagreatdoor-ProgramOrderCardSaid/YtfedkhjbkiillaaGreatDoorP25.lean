/- Part 25 of the proof: texts W19. -/
import Derived.Test.YtfedkhjbkiillaaGreatDoorP24
set_option linter.all false
namespace Go.V
open Go.RowKit
section
variable {P : Program} {R : Wp P} {fr : Fr} {n : Nat} {root : Code} {Q : Exit → Act → World → Prop} {G : List (Nat × List Value)} {a : Act} {w : World}
end
end Go.V
