/- Part 26 of the proof: texts W20. -/
import Derived.Test.YtdejnaokkdndeaaGreatDoorP25
set_option linter.all false
namespace Go.V
open Go.RowKit
section
variable {P : Program} {fr : Fr} {n : Nat} {own : Own} {a : Act} {w : World} {pl : Pl} {D : Nat} {G : List (Nat × List Value)} {pids : List Nat}
end
section
variable {P : Program} {fr : Fr} {n : Nat} {a : Act} {w : World} {pl : Pl}
theorem lookO_cons (j : Nat) (o : Ob) (l : OwnL) : lookO ((j, o) :: l) = upd (lookO l) j o := by
 funext i
 by_cases h : i = j
 ·subst h; simp [lookO, upd]
 ·have : (j == i) = false := by simp; exact fun e => h e.symm
  simp [lookO, upd, h, this]
end
def exOf : Option Code → Option Ex
 | none => some .normal
 | some .ret => some .ret
 | some (.exit id) => some (.exit id)
 | _ => none
section
variable {P : Program} {fr : Fr} {n : Nat} {root : Code} {Q : Exit → Act → World → Prop} {G : List (Nat × List Value)}
def jumpOf : Ex → Option Code
 | .normal => none
 | .ret => some .ret
 | .exit id => some (.exit id)
end
end Go.V
