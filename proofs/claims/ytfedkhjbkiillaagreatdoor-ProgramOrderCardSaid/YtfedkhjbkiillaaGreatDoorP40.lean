/- Part 40 of the proof: texts S14b. -/
import Derived.Test.YtfedkhjbkiillaaGreatDoorP39
set_option linter.all false
namespace Go.Proofs.YtfedkhjbkiillaaGreatDoor
open Go.RowKit Go.V
def rightI : List SV := [gramS]
def rightO : SV := .c (.d (.b true))
set_option maxRecDepth 1000000 in
theorem right_lit (m : Int) : V.Spec Tryz.prog (Gl (gT m)) 87 rightI [] rightO [] :=
 specX (fun _ => none) (mkL [1164, 1249] []) (T := T0) (ne := N0e) (df := []) (F := 100000) (d := 60) (cs := []) (by kernel_rfl) (by kernel_rfl) trivial
def col0I : List SV := [.c (.d (.s (S [99, 111, 108]))), .c (.d (.s (S [97]))), .c (.d (.nil)), .c (.d (.nil)), .c (.d (.sl 2 [[.s (S [97]), .i 1]])), .c (.d (.sl 7 [[.i 1, .s (S [120]), .i 0, .i 0, .i 0, .nil, .nil]]))]
def col0O : SV := .tup [(true, [.d (.i 1), .d (.s (S [120])), .d (.i 0), .d (.i 0), .d (.i 0), .d (.nil), .d (.sl 1 [])]), (false, [.d (.i 0)])]
set_option maxRecDepth 1000000 in
theorem col0_lit (m : Int) : V.Spec Tryz.prog (Gl (gT m)) 77 col0I [] col0O [] :=
 specX (fun _ => none) (mkL [] []) (T := T0) (ne := N0e) (df := []) (F := 100000) (d := 60) (cs := []) (by kernel_rfl) (by kernel_rfl) trivial
def col1I : List SV := [.c (.d (.s (S [99, 111, 108]))), .c (.d (.s (S [97]))), .c (.d (.sl 7 [])), .c (.d (.nil)), .c (.d (.sl 2 [[.s (S [97]), .i 1]])), .c (.d (.sl 7 [[.i 1, .s (S [120]), .i 0, .i 0, .i 0, .nil, .nil]]))]
def col1O : SV := .tup [(true, [.d (.i 1), .d (.s (S [120])), .d (.i 0), .d (.i 0), .d (.i 0), .d (.nil), .d (.sl 1 [])]), (false, [.d (.i 0)])]
set_option maxRecDepth 1000000 in
theorem col1_lit (m : Int) : V.Spec Tryz.prog (Gl (gT m)) 77 col1I [] col1O [] :=
 specX (fun _ => none) (mkL [] []) (T := T0) (ne := N0e) (df := []) (F := 100000) (d := 60) (cs := []) (by kernel_rfl) (by kernel_rfl) trivial
def concatI : List SV := [.c (.d (.s (S [99, 111, 110, 99, 97, 116]))), .c (.d (.s (S []))), .c (.d (.sl 7 [[.i 1, .s (S [120]), .i 0, .i 0, .i 0, .nil, .sl 1 []], [.i 1, .s (S [120]), .i 0, .i 0, .i 0, .nil, .sl 1 []]])), .c (.d (.nil)), .c (.d (.sl 2 [[.s (S [97]), .i 1]])), .c (.d (.sl 7 [[.i 1, .s (S [120]), .i 0, .i 0, .i 0, .nil, .nil]]))]
def concatO : SV := .tup [(true, [.d (.i 1), .d (.s (S [120, 120])), .d (.i 0), .d (.i 0), .d (.i 0), .d (.nil), .d (.nil)]), (false, [.d (.i 0)])]
set_option maxRecDepth 1000000 in
theorem concat_lit (m : Int) : V.Spec Tryz.prog (Gl (gT m)) 77 concatI [] concatO [] :=
 specX (fun _ => none) (mkL [] []) (T := T0) (ne := N0e) (df := []) (F := 100000) (d := 60) (cs := []) (by kernel_rfl) (by kernel_rfl) trivial
end Go.Proofs.YtfedkhjbkiillaaGreatDoor
