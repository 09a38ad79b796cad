/- Part 44 of the proof: texts S14e, S14f, S14g, S14j. -/
import Derived.Test.YtfedkhjbkiillaaGreatDoorP28
set_option linter.all false
namespace Go.Proofs.YtfedkhjbkiillaaGreatDoor
open Go.RowKit Go.V
def add1I : List SV := [.agg [.d (.b false), .d (.s (S [])), .d (.s (S [1]))], .agg [.d (.b false), .d (.s (S [3])), .d (.s (S [1]))]]
def add1O : SV := .agg [.d (.b false), .d (.s (S [3])), .d (.s (S [1]))]
set_option maxRecDepth 1000000 in
theorem add1_lit (m : Int) : V.Spec Tryz.prog (Gl (gT m)) 42 add1I [] add1O [] :=
 specX (fun _ => none) (mkL [] []) (T := T0) (ne := N0e) (df := []) (F := 100000) (d := 60) (cs := []) (by kernel_rfl) (by kernel_rfl) trivial
end Go.Proofs.YtfedkhjbkiillaaGreatDoor
namespace Go.Proofs.YtfedkhjbkiillaaGreatDoor
open Go.RowKit Go.V
def add2I : List SV := [.agg [.d (.b false), .d (.s (S [3])), .d (.s (S [1]))], .agg [.d (.b false), .d (.s (S [1])), .d (.s (S [2]))]]
def add2O : SV := .agg [.d (.b false), .d (.s (S [7])), .d (.s (S [2]))]
set_option maxRecDepth 1000000 in
theorem add2_lit (m : Int) : V.Spec Tryz.prog (Gl (gT m)) 42 add2I [] add2O [] :=
 specX (fun _ => none) (mkL [] []) (T := T0) (ne := N0e) (df := []) (F := 100000) (d := 60) (cs := []) (by kernel_rfl) (by kernel_rfl) trivial
end Go.Proofs.YtfedkhjbkiillaaGreatDoor
namespace Go.Proofs.YtfedkhjbkiillaaGreatDoor
open Go.RowKit Go.V
def add3I : List SV := [.agg [.d (.b false), .d (.s (S [7])), .d (.s (S [2]))], .agg [.d (.b false), .d (.s (S [1])), .d (.s (S [2]))]]
def add3O : SV := .agg [.d (.b false), .d (.s (S [4])), .d (.s (S [1]))]
set_option maxRecDepth 1000000 in
theorem add3_lit (m : Int) : V.Spec Tryz.prog (Gl (gT m)) 42 add3I [] add3O [] :=
 specX (fun _ => none) (mkL [] []) (T := T0) (ne := N0e) (df := []) (F := 100000) (d := 60) (cs := []) (by kernel_rfl) (by kernel_rfl) trivial
end Go.Proofs.YtfedkhjbkiillaaGreatDoor
namespace Go.Proofs.YtfedkhjbkiillaaGreatDoor
open Go.RowKit Go.V
def costI : List SV := [.c (.d (.sl 3 [[.b false, .s (S [1]), .s (S [2])], [.b false, .s (S [3]), .s (S [1])]])), .c (.d (.sl 1 [[.i 1], [.i 0], [.i 0]]))]
def costO : SV := .tup [(true, [.d (.b false), .d (.s (S [4])), .d (.s (S [1]))]), (false, [.d (.b true)])]
set_option maxRecDepth 1000000 in
theorem cost_lit (m : Int) : V.Spec Tryz.prog (Gl (gT m)) 41 costI [] costO [] :=
 specX (fun _ => none) (mkL [] []) (T := eLits 42 [⟨_, _, add1_lit m⟩, ⟨_, _, add2_lit m⟩, ⟨_, _, add3_lit m⟩] :: T0) (ne := N0e) (df := []) (F := 100000) (d := 60) (cs := []) (by kernel_rfl) (by kernel_rfl) trivial
end Go.Proofs.YtfedkhjbkiillaaGreatDoor
