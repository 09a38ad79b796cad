/- Part 41 of the proof: texts S14c. -/
import Derived.Test.YtfedkhjbkiillaaGreatDoorP39
set_option linter.all false
namespace Go.Proofs.YtfedkhjbkiillaaGreatDoor
open Go.RowKit Go.V
def countsI : List SV := [gramS]
def countsO : SV := .c (.d (.sl 1 [[.sl 1 [[.s (S [])], [.s (S [1])], [.s (S [])], [.s (S [1])]]]]))
set_option maxRecDepth 1000000 in
theorem counts_lit (m : Int) : V.Spec Tryz.prog (Gl (gT m)) 32 countsI [] countsO [] :=
 specX (fun _ => none) (mkL [] []) (T := T0) (ne := N0e) (df := []) (F := 100000) (d := 60) (cs := []) (by kernel_rfl) (by kernel_rfl) trivial
end Go.Proofs.YtfedkhjbkiillaaGreatDoor
