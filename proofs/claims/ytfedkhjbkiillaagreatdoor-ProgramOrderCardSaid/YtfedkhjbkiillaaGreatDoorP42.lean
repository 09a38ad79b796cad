/- Part 42 of the proof: texts S14d. -/
import Derived.Test.YtfedkhjbkiillaaGreatDoorP40
import Derived.Test.YtfedkhjbkiillaaGreatDoorP41
set_option linter.all false
namespace Go.Proofs.YtfedkhjbkiillaaGreatDoor
open Go.RowKit Go.V
def allI : List SV := [gramS, .c (.d (.i 9))]
def allO : SV := .tup [(false, [.d (.sl 1 [[.sl 1 [[.i 0]]], [.sl 1 [[.i 1], [.i 0], [.i 0]]]])]), (false, [.d (.i 0)])]
set_option maxRecDepth 1000000 in
theorem all_lit (m : Int) : V.Spec Tryz.prog (Gl (gT m)) 34 allI [] allO [] :=
 specX (fun _ => none) (mkL [1925, 1928, 3013, 3016, 3305, 3308, 3513, 3516] []) (T := eLits 87 [⟨_, _, right_lit m⟩] :: eLits 32 [⟨_, _, counts_lit m⟩] :: T0) (ne := N0e) (df := []) (F := 100000) (d := 60) (cs := []) (by kernel_rfl) (by kernel_rfl) trivial
end Go.Proofs.YtfedkhjbkiillaaGreatDoor
