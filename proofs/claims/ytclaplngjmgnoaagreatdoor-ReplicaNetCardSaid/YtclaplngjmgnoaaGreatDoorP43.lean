/- Part 43 of the proof. -/
import Derived.Test.YtclaplngjmgnoaaGreatDoorP42
set_option linter.all false
namespace Go.Proofs.YtclaplngjmgnoaaGreatDoor
set_option maxRecDepth 100000
open Go.RowKit Go.V
variable {g : Gv}
theorem iU : V.Spec Tryz.prog (Gl g) 85 [.c (.d (nlD))] [] (.c (cM 3 fZ)) [] :=
 a8 nFQ (fun k => mkL [188] [] k) (T := []) (ne := []) (df := []) (F := 100000) (d := 60) (cs := []) hmx (by kernel_rfl) trivial
theorem aBN : V.Spec Tryz.prog (Gl g) 190 [.c (cS (S [103,114,97,109,109,97,114,32,116,101,120,116,115,32,49])),.c (.d (.v (.int .u8 32)))] [] (.c (cM 1 [[.s (S [103,114,97,109,109,97,114])],[.s (S [116,101,120,116,115])],[.s (S [49])]])) [] :=
 kRQ
theorem xM : V.Spec Tryz.prog (Gl g) 271 [.c (cS (S [49]))] [] (.tup [(false,[cI 1]),(false,[cB true]),(false,[cB true])]) [] :=
 kRQ
theorem aBM : V.Spec Tryz.prog (Gl g) 190 [.c (cS (S [99,111,108,117,109,110,32,97,32,116,101,120,116])),.c (.d (.v (.int .u8 32)))] [] (.c (cM 1 [[.s (S [99,111,108,117,109,110])],[.s (S [97])],[.s (S [116,101,120,116])]])) [] :=
 kRQ
theorem aBL : V.Spec Tryz.prog (Gl g) 190 [.c (cS (S [99,111,108,117,109,110,32,98,32,116,101,120,116])),.c (.d (.v (.int .u8 32)))] [] (.c (cM 1 [[.s (S [99,111,108,117,109,110])],[.s (S [98])],[.s (S [116,101,120,116])]])) [] :=
 kRQ
theorem aBK : V.Spec Tryz.prog (Gl g) 190 [.c (cS (S [115,121,109,98,111,108,32,84,32,116,101,120,116,32,52])),.c (.d (.v (.int .u8 32)))] [] (.c (cM 1 [[.s (S [115,121,109,98,111,108])],[.s (S [84])],[.s (S [116,101,120,116])],[.s (S [52])]])) [] :=
 kRQ
theorem xL : V.Spec Tryz.prog (Gl g) 271 [.c (cS (S [52]))] [] (.tup [(false,[cI 4]),(false,[cB true]),(false,[cB true])]) [] :=
 kRQ
theorem aBJ : V.Spec Tryz.prog (Gl g) 190 [.c (cS (S [115,121,109,98,111,108,32,85,32,116,101,120,116,32,50])),.c (.d (.v (.int .u8 32)))] [] (.c (cM 1 [[.s (S [115,121,109,98,111,108])],[.s (S [85])],[.s (S [116,101,120,116])],[.s (S [50])]])) [] :=
 kRQ
theorem xJ : V.Spec Tryz.prog (Gl g) 271 [.c (cS (S [50]))] [] (.tup [(false,[cI 2]),(false,[cB true]),(false,[cB true])]) [] :=
 kRQ
theorem aBI : V.Spec Tryz.prog (Gl g) 190 [.c (cS (S [114,117,108,101,32,84,32,99,111,108,32,39,97,39])),.c (.d (.v (.int .u8 32)))] [] (.c (cM 1 [[.s (S [114,117,108,101])],[.s (S [84])],[.s (S [99,111,108])],[.s (S [39,97,39])]])) [] :=
 kRQ
theorem uQ : V.Spec Tryz.prog (Gl g) 274 [.c (cS (S [39,97,39]))] [] (.tup [(false,[cS (S [97])]),(false,[cS (S [])]),(false,[cB true])]) [] :=
 kRQ
theorem aBH : V.Spec Tryz.prog (Gl g) 190 [.c (cS (S [114,117,108,101,32,84,32,99,111,108,32,39,98,39])),.c (.d (.v (.int .u8 32)))] [] (.c (cM 1 [[.s (S [114,117,108,101])],[.s (S [84])],[.s (S [99,111,108])],[.s (S [39,98,39])]])) [] :=
 kRQ
theorem uP : V.Spec Tryz.prog (Gl g) 274 [.c (cS (S [39,98,39]))] [] (.tup [(false,[cS (S [98])]),(false,[cS (S [])]),(false,[cB true])]) [] :=
 kRQ
theorem aBG : V.Spec Tryz.prog (Gl g) 190 [.c (cS (S [114,117,108,101,32,84,32,99,111,110,99,97,116,32,39,39,32,85,32,84])),.c (.d (.v (.int .u8 32)))] [] (.c (cM 1 [[.s (S [114,117,108,101])],[.s (S [84])],[.s (S [99,111,110,99,97,116])],[.s (S [39,39])],[.s (S [85])],[.s (S [84])]])) [] :=
 kRQ
theorem uO : V.Spec Tryz.prog (Gl g) 274 [.c (cS (S [39,39,32,85,32,84]))] [] (.tup [(false,[cS (S [])]),(false,[cS (S [32,85,32,84])]),(false,[cB true])]) [] :=
 kRQ
theorem aBF : V.Spec Tryz.prog (Gl g) 190 [.c (cS (S [32,85,32,84])),.c (.d (.v (.int .u8 32)))] [] (.c (cM 1 [[.s (S [])],[.s (S [85])],[.s (S [84])]])) [] :=
 kRQ
theorem xI : V.Spec Tryz.prog (Gl g) 190 [.c (cS (S [114,117,108,101,32,84,32,117,112,112,101,114,32,39,39,32,85])),.c (.d (.v (.int .u8 32)))] [] (.c (cM 1 [[.s (S [114,117,108,101])],[.s (S [84])],[.s (S [117,112,112,101,114])],[.s (S [39,39])],[.s (S [85])]])) [] :=
 kRQ
theorem uN : V.Spec Tryz.prog (Gl g) 274 [.c (cS (S [39,39,32,85]))] [] (.tup [(false,[cS (S [])]),(false,[cS (S [32,85])]),(false,[cB true])]) [] :=
 kRQ
theorem xH : V.Spec Tryz.prog (Gl g) 190 [.c (cS (S [32,85])),.c (.d (.v (.int .u8 32)))] [] (.c (cM 1 [[.s (S [])],[.s (S [85])]])) [] :=
 kRQ
theorem xG : V.Spec Tryz.prog (Gl g) 190 [.c (cS (S [114,117,108,101,32,85,32,99,111,108,32,39,97,39])),.c (.d (.v (.int .u8 32)))] [] (.c (cM 1 [[.s (S [114,117,108,101])],[.s (S [85])],[.s (S [99,111,108])],[.s (S [39,97,39])]])) [] :=
 kRQ
theorem xF : V.Spec Tryz.prog (Gl g) 190 [.c (cS (S [114,117,108,101,32,85,32,116,101,120,116,32,39,45,39])),.c (.d (.v (.int .u8 32)))] [] (.c (cM 1 [[.s (S [114,117,108,101])],[.s (S [85])],[.s (S [116,101,120,116])],[.s (S [39,45,39])]])) [] :=
 kRQ
theorem uM : V.Spec Tryz.prog (Gl g) 274 [.c (cS (S [39,45,39]))] [] (.tup [(false,[cS (S [45])]),(false,[cS (S [])]),(false,[cB true])]) [] :=
 kRQ
theorem xE : V.Spec Tryz.prog (Gl g) 190 [.c (cS (S [114,117,108,101,32,85,32,101,120,116,114,97,99,116,32,39,92,100,43,35,49,39,32,85])),.c (.d (.v (.int .u8 32)))] [] (.c (cM 1 [[.s (S [114,117,108,101])],[.s (S [85])],[.s (S [101,120,116,114,97,99,116])],[.s (S [39,92,100,43,35,49,39])],[.s (S [85])]])) [] :=
 kRQ
theorem uL : V.Spec Tryz.prog (Gl g) 274 [.c (cS (S [39,92,100,43,35,49,39,32,85]))] [] (.tup [(false,[cS (S [92,100,43,35,49])]),(false,[cS (S [32,85])]),(false,[cB true])]) [] :=
 kRQ
theorem xD : V.Spec Tryz.prog (Gl g) 190 [.c (cS (S [115,116,97,114,116,32,84])),.c (.d (.v (.int .u8 32)))] [] (.c (cM 1 [[.s (S [115,116,97,114,116])],[.s (S [84])]])) [] :=
 kRQ
theorem aBO : V.Spec Tryz.prog (Gl g) 80 [.c (cS (S [103,114,97,109,109,97,114,32,116,101,120,116,115,32,49,10,99,111,108,117,109,110,32,97,32,116,101,120,116,10,99,111,108,117,109,110,32,98,32,116,101,120,116,10,115,121,109,98,111,108,32,84,32,116,101,120,116,32,52,10,115,121,109,98,111,108,32,85,32,116,101,120,116,32,50,10,114,117,108,101,32,84,32,99,111,108,32,39,97,39,10,114,117,108,101,32,84,32,99,111,108,32,39,98,39,10,114,117,108,101,32,84,32,99,111,110,99,97,116,32,39,39,32,85,32,84,10,114,117,108,101,32,84,32,117,112,112,101,114,32,39,39,32,85,10,114,117,108,101,32,85,32,99,111,108,32,39,97,39,10,114,117,108,101,32,85,32,116,101,120,116,32,39,45,39,10,114,117,108,101,32,85,32,101,120,116,114,97,99,116,32,39,92,100,43,35,49,39,32,85,10,115,116,97,114,116,32,84,10]))] [] (.tup [(true,g0C),(false,[cI 0]),(false,[cI 0])]) [] :=
 a8 nFQ (fun k => bif Nat.ble 4740 k then (bif Nat.ble 5957 k then (mkL [5957,6908] [(6247,12),(7455,12)] k) else (mkL [5188] [(4740,12),(5454,12)] k)) else (bif Nat.ble 2976 k then (mkL [3392,4339] [(2976,12),(3912,12)] k) else (mkL [2184,2723] [(2437,12)] k))) (T := [aR 190 [⟨_,_,aBN⟩,⟨_,_,aBM⟩,⟨_,_,aBL⟩,⟨_,_,aBK⟩,⟨_,_,aBJ⟩,⟨_,_,aBI⟩,⟨_,_,aBH⟩,⟨_,_,aBG⟩,⟨_,_,aBF⟩,⟨_,_,xI⟩,⟨_,_,xH⟩,⟨_,_,xG⟩,⟨_,_,xF⟩,⟨_,_,xE⟩,⟨_,_,xD⟩],aR 271 [⟨_,_,xM⟩,⟨_,_,xL⟩,⟨_,_,xJ⟩],aR 274 [⟨_,_,uQ⟩,⟨_,_,uP⟩,⟨_,_,uO⟩,⟨_,_,uN⟩,⟨_,_,uM⟩,⟨_,_,uL⟩]]) (ne := []) (df := []) (F := 100000) (d := 60) (cs := []) hmx (by kernel_rfl) trivial
theorem madeX : V.Spec Tryz.prog (Gl g) 42 [.c (cM 1 [[.i 0]])] [] (.agg g0C) [] :=
 a8 nFQ (fun k => bif Nat.ble 595 k then (bif Nat.ble 819 k then (bif Nat.ble 903 k then (mkL [903,931,959] [] k) else (mkL [819,847,875] [] k)) else (mkL [595,623,651,679,791] [] k)) else (bif Nat.ble 371 k then (mkL [371,399,511,539,567] [] k) else (mkL [231,259,287,315,343] [] k))) (T := [aR 80 [⟨_,_,aBO⟩],aR 85 [⟨_,_,iU⟩],aR 84 [⟨_,_,checkX⟩]]) (ne := []) (df := []) (F := 100000) (d := 60) (cs := []) hmx (by kernel_rfl) trivial
end Go.Proofs.YtclaplngjmgnoaaGreatDoor
