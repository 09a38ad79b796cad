/- Part 39 of the proof: texts S14a. -/
import Derived.Test.YtfedkhjbkiillaaGreatDoorP28
set_option linter.all false
namespace Go.Proofs.YtfedkhjbkiillaaGreatDoor
open Go.RowKit Go.V
def gramS : SV := .agg [.d (.s (S [103])), .d (.i 1), .d (.sl 2 [[.s (S [97]), .i 1]]), .d (.sl 3 [[.s (S [84]), .i 1, .i 3]]), .d (.sl 4 [[.i 0, .s (S [99, 111, 108]), .s (S [97]), .sl 1 []], [.i 0, .s (S [99, 111, 110, 99, 97, 116]), .s (S []), .sl 1 [[.i 0], [.i 0]]]]), .d (.i 0)]
def smallI : List SV := []
def smallO : SV := gramS
set_option maxRecDepth 1000000 in
theorem small_lit (m : Int) : V.Spec Tryz.prog (Gl (gT m)) 48 smallI [] smallO [] :=
 specX (fun _ => none) (mkL [4827, 6090] [(5080, 12), (6681, 12)]) (T := T0) (ne := N0e) (df := []) (F := 100000) (d := 60) (cs := []) (by kernel_rfl) (by kernel_rfl) trivial
end Go.Proofs.YtfedkhjbkiillaaGreatDoor
