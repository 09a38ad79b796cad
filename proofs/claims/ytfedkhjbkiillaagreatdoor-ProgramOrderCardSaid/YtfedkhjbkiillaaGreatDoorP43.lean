/- Part 43 of the proof: texts S14h, S14i. -/
import Derived.Test.YtfedkhjbkiillaaGreatDoorP28
import Derived.Test.YtfedkhjbkiillaaGreatDoorP40
set_option linter.all false
namespace Go.Proofs.YtfedkhjbkiillaaGreatDoor
open Go.RowKit Go.V
def quoI : List SV := [.agg [.d (.b false), .d (.s (S [1])), .d (.s (S [1]))], .agg [.d (.b false), .d (.s (S [2])), .d (.s (S [1]))]]
def quoO : SV := .tup [(true, [.d (.b false), .d (.s (S [1])), .d (.s (S [2]))]), (false, [.d (.b true)])]
set_option maxRecDepth 1000000 in
theorem quo_lit (m : Int) : V.Spec Tryz.prog (Gl (gT m)) 38 quoI [] quoO [] :=
 specX (fun _ => none) (mkL [] []) (T := T0) (ne := N0e) (df := []) (F := 100000) (d := 60) (cs := []) (by kernel_rfl) (by kernel_rfl) trivial
end Go.Proofs.YtfedkhjbkiillaaGreatDoor
namespace Go.Proofs.YtfedkhjbkiillaaGreatDoor
open Go.RowKit Go.V
def fits1I : List SV := [gramS, .c (.d (.sl 1 [[.i 1], [.i 0], [.i 0]])), .c (.d (.sl 1 [[.i 1], [.i (-1)], [.i 0]]))]
def fits1O : SV := .c (.d (.b true))
set_option maxRecDepth 1000000 in
theorem fits1_lit (m : Int) : V.Spec Tryz.prog (Gl (gT m)) 24 fits1I [] fits1O [] :=
 specX (fun _ => none) (mkL [123, 459, 743, 857, 967, 1253] []) (T := eLits 87 [⟨_, _, right_lit m⟩] :: T0) (ne := N0e) (df := []) (F := 100000) (d := 60) (cs := []) (by kernel_rfl) (by kernel_rfl) trivial
def fits2I : List SV := [gramS, .c (.d (.sl 1 [[.i 0]])), .c (.d (.sl 1 [[.i 1], [.i (-1)], [.i 0]]))]
def fits2O : SV := .c (.d (.b false))
set_option maxRecDepth 1000000 in
theorem fits2_lit (m : Int) : V.Spec Tryz.prog (Gl (gT m)) 24 fits2I [] fits2O [] :=
 specX (fun _ => none) (mkL [123, 267, 377] []) (T := eLits 87 [⟨_, _, right_lit m⟩] :: T0) (ne := N0e) (df := []) (F := 100000) (d := 60) (cs := []) (by kernel_rfl) (by kernel_rfl) trivial
end Go.Proofs.YtfedkhjbkiillaaGreatDoor
