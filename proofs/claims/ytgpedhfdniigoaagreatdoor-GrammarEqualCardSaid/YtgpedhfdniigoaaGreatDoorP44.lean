/- Part 44 of the proof. -/
import Derived.Test.YtgpedhfdniigoaaGreatDoorP39
set_option linter.all false
namespace Go.Proofs.YtgpedhfdniigoaaGreatDoor
set_option maxRecDepth 100000
open Go.RowKit Go.V
variable {g : Gv}
theorem aCJ : V.Spec Tryz.prog (Gl g) 55 [.c (cS (S [103,114,97,109,109,97,114,32,99,104,111,105,99,101,115,32,49])),.c (.d (.y 32))] [] (.c (cM 1 [[.s (S [103,114,97,109,109,97,114])],[.s (S [99,104,111,105,99,101,115])],[.s (S [49])]])) [] :=
 aF nFQ nFQ (T := [] ++ T0) (ne := N0e) (df := D0e) (F := 100000) (d := 60) (cs := []) aH (by kernel_rfl) trivial
theorem aFD : V.Spec Tryz.prog (Gl g) 46 [.c (cS (S [99,104,111,105,99,101,115]))] [] (.c (cB true)) [] :=
 aF nFQ nFQ (T := [] ++ T0) (ne := N0e) (df := D0e) (F := 100000) (d := 60) (cs := []) aH (by kernel_rfl) trivial
theorem xR : V.Spec Tryz.prog (Gl g) 156 [.c (cS (S [49]))] [] (y31) [] :=
 aF nFQ nFQ (T := [] ++ T0) (ne := N0e) (df := D0e) (F := 100000) (d := 60) (cs := []) aH (by kernel_rfl) trivial
theorem aCI : V.Spec Tryz.prog (Gl g) 55 [.c (cS (S [99,111,108,117,109,110,32,115,32,116,101,120,116])),.c (.d (.y 32))] [] (.c (cM 1 [[.s (S [99,111,108,117,109,110])],[.s (S [115])],[.s (S [116,101,120,116])]])) [] :=
 aF nFQ nFQ (T := [] ++ T0) (ne := N0e) (df := D0e) (F := 100000) (d := 60) (cs := []) aH (by kernel_rfl) trivial
theorem aFC : V.Spec Tryz.prog (Gl g) 46 [.c (cS (S [115]))] [] (.c (cB true)) [] :=
 aF nFQ nFQ (T := [] ++ T0) (ne := N0e) (df := D0e) (F := 100000) (d := 60) (cs := []) aH (by kernel_rfl) trivial
theorem uN : V.Spec Tryz.prog (Gl g) 157 [.c (cM 1 [[.s (S [])],[.s (S [116,101,120,116])],[.s (S [110,117,109,98,101,114])],[.s (S [100,97,116,101])],[.s (S [98,111,111,108])],[.s (S [116,97,98,108,101])]]),.c (cS (S [116,101,120,116]))] [] (.c (cI 1)) [] :=
 aF nFQ nFQ (T := [] ++ T0) (ne := N0e) (df := D0e) (F := 100000) (d := 60) (cs := []) aH (by kernel_rfl) trivial
theorem uM : V.Spec Tryz.prog (Gl g) 157 [.c (.d (nlD)),.c (cS (S [115]))] [] (.c (cI (-1))) [] :=
 aF nFQ nFQ (T := [] ++ T0) (ne := N0e) (df := D0e) (F := 100000) (d := 60) (cs := []) aH (by kernel_rfl) trivial
theorem aCH : V.Spec Tryz.prog (Gl g) 55 [.c (cS (S [99,111,108,117,109,110,32,110,32,110,117,109,98,101,114])),.c (.d (.y 32))] [] (.c (cM 1 [[.s (S [99,111,108,117,109,110])],[.s (S [110])],[.s (S [110,117,109,98,101,114])]])) [] :=
 aF nFQ nFQ (T := [] ++ T0) (ne := N0e) (df := D0e) (F := 100000) (d := 60) (cs := []) aH (by kernel_rfl) trivial
theorem aFB : V.Spec Tryz.prog (Gl g) 46 [.c (cS (S [110]))] [] (.c (cB true)) [] :=
 aF nFQ nFQ (T := [] ++ T0) (ne := N0e) (df := D0e) (F := 100000) (d := 60) (cs := []) aH (by kernel_rfl) trivial
theorem uL : V.Spec Tryz.prog (Gl g) 157 [.c (cM 1 [[.s (S [])],[.s (S [116,101,120,116])],[.s (S [110,117,109,98,101,114])],[.s (S [100,97,116,101])],[.s (S [98,111,111,108])],[.s (S [116,97,98,108,101])]]),.c (cS (S [110,117,109,98,101,114]))] [] (.c (cI 2)) [] :=
 aF nFQ nFQ (T := [] ++ T0) (ne := N0e) (df := D0e) (F := 100000) (d := 60) (cs := []) aH (by kernel_rfl) trivial
theorem uK : V.Spec Tryz.prog (Gl g) 157 [.c (cM 1 [[.s (S [115])]]),.c (cS (S [110]))] [] (.c (cI (-1))) [] :=
 aF nFQ nFQ (T := [] ++ T0) (ne := N0e) (df := D0e) (F := 100000) (d := 60) (cs := []) aH (by kernel_rfl) trivial
theorem aCG : V.Spec Tryz.prog (Gl g) 55 [.c (cS (S [115,121,109,98,111,108,32,84,32,116,101,120,116,32,53])),.c (.d (.y 32))] [] (.c (cM 1 [[.s (S [115,121,109,98,111,108])],[.s (S [84])],[.s (S [116,101,120,116])],[.s (S [53])]])) [] :=
 aF nFQ nFQ (T := [] ++ T0) (ne := N0e) (df := D0e) (F := 100000) (d := 60) (cs := []) aH (by kernel_rfl) trivial
theorem aFA : V.Spec Tryz.prog (Gl g) 46 [.c (cS (S [84]))] [] (.c (cB true)) [] :=
 aF nFQ nFQ (T := [] ++ T0) (ne := N0e) (df := D0e) (F := 100000) (d := 60) (cs := []) aH (by kernel_rfl) trivial
theorem xQ : V.Spec Tryz.prog (Gl g) 156 [.c (cS (S [53]))] [] (.tup [(false,[cI 5]),(false,[cB true]),(false,[cB true])]) [] :=
 aF nFQ nFQ (T := [] ++ T0) (ne := N0e) (df := D0e) (F := 100000) (d := 60) (cs := []) aH (by kernel_rfl) trivial
theorem uJ : V.Spec Tryz.prog (Gl g) 157 [.c (.d (nlD)),.c (cS (S [84]))] [] (.c (cI (-1))) [] :=
 aF nFQ nFQ (T := [] ++ T0) (ne := N0e) (df := D0e) (F := 100000) (d := 60) (cs := []) aH (by kernel_rfl) trivial
theorem aCF : V.Spec Tryz.prog (Gl g) 55 [.c (cS (S [115,121,109,98,111,108,32,66,32,98,111,111,108,32,51])),.c (.d (.y 32))] [] (.c (cM 1 [[.s (S [115,121,109,98,111,108])],[.s (S [66])],[.s (S [98,111,111,108])],[.s (S [51])]])) [] :=
 aF nFQ nFQ (T := [] ++ T0) (ne := N0e) (df := D0e) (F := 100000) (d := 60) (cs := []) aH (by kernel_rfl) trivial
theorem aE9 : V.Spec Tryz.prog (Gl g) 46 [.c (cS (S [66]))] [] (.c (cB true)) [] :=
 aF nFQ nFQ (T := [] ++ T0) (ne := N0e) (df := D0e) (F := 100000) (d := 60) (cs := []) aH (by kernel_rfl) trivial
theorem uI : V.Spec Tryz.prog (Gl g) 157 [.c (cM 1 [[.s (S [])],[.s (S [116,101,120,116])],[.s (S [110,117,109,98,101,114])],[.s (S [100,97,116,101])],[.s (S [98,111,111,108])],[.s (S [116,97,98,108,101])]]),.c (cS (S [98,111,111,108]))] [] (.c (cI 4)) [] :=
 aF nFQ nFQ (T := [] ++ T0) (ne := N0e) (df := D0e) (F := 100000) (d := 60) (cs := []) aH (by kernel_rfl) trivial
theorem xP : V.Spec Tryz.prog (Gl g) 156 [.c (cS (S [51]))] [] (y33) [] :=
 aF nFQ nFQ (T := [] ++ T0) (ne := N0e) (df := D0e) (F := 100000) (d := 60) (cs := []) aH (by kernel_rfl) trivial
theorem uH : V.Spec Tryz.prog (Gl g) 157 [.c (cM 1 [[.s (S [84])]]),.c (cS (S [66]))] [] (.c (cI (-1))) [] :=
 aF nFQ nFQ (T := [] ++ T0) (ne := N0e) (df := D0e) (F := 100000) (d := 60) (cs := []) aH (by kernel_rfl) trivial
theorem aCE : V.Spec Tryz.prog (Gl g) 55 [.c (cS (S [115,121,109,98,111,108,32,78,32,110,117,109,98,101,114,32,49])),.c (.d (.y 32))] [] (.c (cM 1 [[.s (S [115,121,109,98,111,108])],[.s (S [78])],[.s (S [110,117,109,98,101,114])],[.s (S [49])]])) [] :=
 aF nFQ nFQ (T := [] ++ T0) (ne := N0e) (df := D0e) (F := 100000) (d := 60) (cs := []) aH (by kernel_rfl) trivial
theorem aE8 : V.Spec Tryz.prog (Gl g) 46 [.c (cS (S [78]))] [] (.c (cB true)) [] :=
 aF nFQ nFQ (T := [] ++ T0) (ne := N0e) (df := D0e) (F := 100000) (d := 60) (cs := []) aH (by kernel_rfl) trivial
theorem uG : V.Spec Tryz.prog (Gl g) 157 [.c (cM 1 [[.s (S [84])],[.s (S [66])]]),.c (cS (S [78]))] [] (.c (cI (-1))) [] :=
 aF nFQ nFQ (T := [] ++ T0) (ne := N0e) (df := D0e) (F := 100000) (d := 60) (cs := []) aH (by kernel_rfl) trivial
theorem aCD : V.Spec Tryz.prog (Gl g) 55 [.c (cS (S [115,121,109,98,111,108,32,67,32,116,101,120,116,32,49])),.c (.d (.y 32))] [] (.c (cM 1 [[.s (S [115,121,109,98,111,108])],[.s (S [67])],[.s (S [116,101,120,116])],[.s (S [49])]])) [] :=
 aF nFQ nFQ (T := [] ++ T0) (ne := N0e) (df := D0e) (F := 100000) (d := 60) (cs := []) aH (by kernel_rfl) trivial
theorem aE7 : V.Spec Tryz.prog (Gl g) 46 [.c (cS (S [67]))] [] (.c (cB true)) [] :=
 aF nFQ nFQ (T := [] ++ T0) (ne := N0e) (df := D0e) (F := 100000) (d := 60) (cs := []) aH (by kernel_rfl) trivial
theorem uF : V.Spec Tryz.prog (Gl g) 157 [.c (cM 1 [[.s (S [84])],[.s (S [66])],[.s (S [78])]]),.c (cS (S [67]))] [] (.c (cI (-1))) [] :=
 aF nFQ nFQ (T := [] ++ T0) (ne := N0e) (df := D0e) (F := 100000) (d := 60) (cs := []) aH (by kernel_rfl) trivial
theorem aCC : V.Spec Tryz.prog (Gl g) 55 [.c (cS (S [114,117,108,101,32,84,32,99,111,108,32,39,115,39])),.c (.d (.y 32))] [] (.c (cM 1 [[.s (S [114,117,108,101])],[.s (S [84])],[.s (S [99,111,108])],[.s (S [39,115,39])]])) [] :=
 aF nFQ nFQ (T := [] ++ T0) (ne := N0e) (df := D0e) (F := 100000) (d := 60) (cs := []) aH (by kernel_rfl) trivial
theorem aE6 : V.Spec Tryz.prog (Gl g) 46 [.c (cS (S [99,111,108]))] [] (.c (cB true)) [] :=
 aF nFQ nFQ (T := [] ++ T0) (ne := N0e) (df := D0e) (F := 100000) (d := 60) (cs := []) aH (by kernel_rfl) trivial
theorem sH : V.Spec Tryz.prog (Gl g) 157 [.c (cM 1 [[.s (S [84])],[.s (S [66])],[.s (S [78])],[.s (S [67])]]),.c (cS (S [84]))] [] (.c (cI 0)) [] :=
 aF nFQ nFQ (T := [] ++ T0) (ne := N0e) (df := D0e) (F := 100000) (d := 60) (cs := []) aH (by kernel_rfl) trivial
theorem aCB : V.Spec Tryz.prog (Gl g) 55 [.c (cS (S [114,117,108,101,32,84,32,116,101,120,116,32,39,108,111,119,39])),.c (.d (.y 32))] [] (.c (cM 1 [[.s (S [114,117,108,101])],[.s (S [84])],[.s (S [116,101,120,116])],[.s (S [39,108,111,119,39])]])) [] :=
 aF nFQ nFQ (T := [] ++ T0) (ne := N0e) (df := D0e) (F := 100000) (d := 60) (cs := []) aH (by kernel_rfl) trivial
theorem aE5 : V.Spec Tryz.prog (Gl g) 46 [.c (cS (S [116,101,120,116]))] [] (.c (cB true)) [] :=
 aF nFQ nFQ (T := [] ++ T0) (ne := N0e) (df := D0e) (F := 100000) (d := 60) (cs := []) aH (by kernel_rfl) trivial
abbrev y34 : SV := .agg [cI 0,cS (S [99,111,108]),cS (S [115]),cM 1 []]
abbrev y35 : SV := .agg [cI 0,cS (S [116,101,120,116]),cS (S [108,111,119]),cM 1 []]
theorem sD : V.Spec Tryz.prog (Gl g) 54 [y34,y35] [] (.c (cB false)) [] :=
 aF nFQ nFQ (T := [] ++ T0) (ne := N0e) (df := D0e) (F := 100000) (d := 60) (cs := []) aH (by kernel_rfl) trivial
theorem xO : V.Spec Tryz.prog (Gl g) 55 [.c (cS (S [114,117,108,101,32,84,32,105,102,32,39,116,101,120,116,39,32,66,32,67,32,84])),.c (.d (.y 32))] [] (.c (cM 1 [[.s (S [114,117,108,101])],[.s (S [84])],[.s (S [105,102])],[.s (S [39,116,101,120,116,39])],[.s (S [66])],[.s (S [67])],[.s (S [84])]])) [] :=
 aF nFQ nFQ (T := [] ++ T0) (ne := N0e) (df := D0e) (F := 100000) (d := 60) (cs := []) aH (by kernel_rfl) trivial
theorem xN : V.Spec Tryz.prog (Gl g) 55 [.c (cS (S [32,66,32,67,32,84])),.c (.d (.y 32))] [] (.c (cM 1 [[.s (S [])],[.s (S [66])],[.s (S [67])],[.s (S [84])]])) [] :=
 aF nFQ nFQ (T := [] ++ T0) (ne := N0e) (df := D0e) (F := 100000) (d := 60) (cs := []) aH (by kernel_rfl) trivial
theorem aCN : V.Spec Tryz.prog (Gl g) 46 [.c (cS (S [105,102]))] [] (.c (cB true)) [] :=
 aF nFQ nFQ (T := [] ++ T0) (ne := N0e) (df := D0e) (F := 100000) (d := 60) (cs := []) aH (by kernel_rfl) trivial
theorem sG : V.Spec Tryz.prog (Gl g) 157 [.c (cM 1 [[.s (S [84])],[.s (S [66])],[.s (S [78])],[.s (S [67])]]),.c (cS (S [66]))] [] (.c (cI 1)) [] :=
 aF nFQ nFQ (T := [] ++ T0) (ne := N0e) (df := D0e) (F := 100000) (d := 60) (cs := []) aH (by kernel_rfl) trivial
theorem sF : V.Spec Tryz.prog (Gl g) 157 [.c (cM 1 [[.s (S [84])],[.s (S [66])],[.s (S [78])],[.s (S [67])]]),.c (cS (S [67]))] [] (.c (cI 3)) [] :=
 aF nFQ nFQ (T := [] ++ T0) (ne := N0e) (df := D0e) (F := 100000) (d := 60) (cs := []) aH (by kernel_rfl) trivial
abbrev y36 (a0 : LD) : SV := .agg [cI 0,cS (S [105,102]),cS (S [116,101,120,116]),cM 1 a0]
theorem sC : V.Spec Tryz.prog (Gl g) 54 [y34,y36 [[.i 1],[.i 3],[.i 0]]] [] (.c (cB false)) [] :=
 aF nFQ nFQ (T := [] ++ T0) (ne := N0e) (df := D0e) (F := 100000) (d := 60) (cs := []) aH (by kernel_rfl) trivial
theorem sB : V.Spec Tryz.prog (Gl g) 54 [y35,y36 [[.i 1],[.i 3],[.i 0]]] [] (.c (cB false)) [] :=
 aF nFQ nFQ (T := [] ++ T0) (ne := N0e) (df := D0e) (F := 100000) (d := 60) (cs := []) aH (by kernel_rfl) trivial
theorem xM : V.Spec Tryz.prog (Gl g) 55 [.c (cS (S [114,117,108,101,32,66,32,108,101,115,115,32,39,39,32,78,32,78])),.c (.d (.y 32))] [] (.c (cM 1 [[.s (S [114,117,108,101])],[.s (S [66])],[.s (S [108,101,115,115])],[.s (S [39,39])],[.s (S [78])],[.s (S [78])]])) [] :=
 aF nFQ nFQ (T := [] ++ T0) (ne := N0e) (df := D0e) (F := 100000) (d := 60) (cs := []) aH (by kernel_rfl) trivial
theorem xL : V.Spec Tryz.prog (Gl g) 55 [.c (cS (S [32,78,32,78])),.c (.d (.y 32))] [] (.c (cM 1 [[.s (S [])],[.s (S [78])],[.s (S [78])]])) [] :=
 aF nFQ nFQ (T := [] ++ T0) (ne := N0e) (df := D0e) (F := 100000) (d := 60) (cs := []) aH (by kernel_rfl) trivial
theorem aCM : V.Spec Tryz.prog (Gl g) 46 [.c (cS (S [108,101,115,115]))] [] (.c (cB true)) [] :=
 aF nFQ nFQ (T := [] ++ T0) (ne := N0e) (df := D0e) (F := 100000) (d := 60) (cs := []) aH (by kernel_rfl) trivial
theorem sE : V.Spec Tryz.prog (Gl g) 157 [.c (cM 1 [[.s (S [84])],[.s (S [66])],[.s (S [78])],[.s (S [67])]]),.c (cS (S [78]))] [] (.c (cI 2)) [] :=
 aF nFQ nFQ (T := [] ++ T0) (ne := N0e) (df := D0e) (F := 100000) (d := 60) (cs := []) aH (by kernel_rfl) trivial
abbrev y37 (a0 : LD) : SV := .agg [cI 1,cS (S [108,101,115,115]),cS (S []),cM 1 a0]
theorem sA : V.Spec Tryz.prog (Gl g) 54 [y34,y37 [[.i 2],[.i 2]]] [] (.c (cB false)) [] :=
 aF nFQ nFQ (T := [] ++ T0) (ne := N0e) (df := D0e) (F := 100000) (d := 60) (cs := []) aH (by kernel_rfl) trivial
theorem r9 : V.Spec Tryz.prog (Gl g) 54 [y35,y37 [[.i 2],[.i 2]]] [] (.c (cB false)) [] :=
 aF nFQ nFQ (T := [] ++ T0) (ne := N0e) (df := D0e) (F := 100000) (d := 60) (cs := []) aH (by kernel_rfl) trivial
theorem r8 : V.Spec Tryz.prog (Gl g) 54 [y36 [[.i 1],[.i 3],[.i 0]],y37 [[.i 2],[.i 2]]] [] (.c (cB false)) [] :=
 aF nFQ nFQ (T := [] ++ T0) (ne := N0e) (df := D0e) (F := 100000) (d := 60) (cs := []) aH (by kernel_rfl) trivial
theorem xK : V.Spec Tryz.prog (Gl g) 55 [.c (cS (S [114,117,108,101,32,66,32,109,97,116,99,104,32,39,92,117,43,39,32,67])),.c (.d (.y 32))] [] (.c (cM 1 [[.s (S [114,117,108,101])],[.s (S [66])],[.s (S [109,97,116,99,104])],[.s (S [39,92,117,43,39])],[.s (S [67])]])) [] :=
 aF nFQ nFQ (T := [] ++ T0) (ne := N0e) (df := D0e) (F := 100000) (d := 60) (cs := []) aH (by kernel_rfl) trivial
theorem xJ : V.Spec Tryz.prog (Gl g) 55 [.c (cS (S [32,67])),.c (.d (.y 32))] [] (.c (cM 1 [[.s (S [])],[.s (S [67])]])) [] :=
 aF nFQ nFQ (T := [] ++ T0) (ne := N0e) (df := D0e) (F := 100000) (d := 60) (cs := []) aH (by kernel_rfl) trivial
theorem aCL : V.Spec Tryz.prog (Gl g) 46 [.c (cS (S [109,97,116,99,104]))] [] (.c (cB true)) [] :=
 aF nFQ nFQ (T := [] ++ T0) (ne := N0e) (df := D0e) (F := 100000) (d := 60) (cs := []) aH (by kernel_rfl) trivial
abbrev y38 (a0 : LD) : SV := .agg [cI 1,cS (S [109,97,116,99,104]),cS (S [92,117,43]),cM 1 a0]
theorem r7 : V.Spec Tryz.prog (Gl g) 54 [y34,y38 [[.i 3]]] [] (.c (cB false)) [] :=
 aF nFQ nFQ (T := [] ++ T0) (ne := N0e) (df := D0e) (F := 100000) (d := 60) (cs := []) aH (by kernel_rfl) trivial
theorem r6 : V.Spec Tryz.prog (Gl g) 54 [y35,y38 [[.i 3]]] [] (.c (cB false)) [] :=
 aF nFQ nFQ (T := [] ++ T0) (ne := N0e) (df := D0e) (F := 100000) (d := 60) (cs := []) aH (by kernel_rfl) trivial
theorem r5 : V.Spec Tryz.prog (Gl g) 54 [y36 [[.i 1],[.i 3],[.i 0]],y38 [[.i 3]]] [] (.c (cB false)) [] :=
 aF nFQ nFQ (T := [] ++ T0) (ne := N0e) (df := D0e) (F := 100000) (d := 60) (cs := []) aH (by kernel_rfl) trivial
theorem qL : V.Spec Tryz.prog (Gl g) 54 [y37 [[.i 2],[.i 2]],y38 [[.i 3]]] [] (.c (cB false)) [] :=
 aF nFQ nFQ (T := [] ++ T0) (ne := N0e) (df := D0e) (F := 100000) (d := 60) (cs := []) aH (by kernel_rfl) trivial
theorem xI : V.Spec Tryz.prog (Gl g) 55 [.c (cS (S [114,117,108,101,32,78,32,99,111,108,32,39,110,39])),.c (.d (.y 32))] [] (.c (cM 1 [[.s (S [114,117,108,101])],[.s (S [78])],[.s (S [99,111,108])],[.s (S [39,110,39])]])) [] :=
 aF nFQ nFQ (T := [] ++ T0) (ne := N0e) (df := D0e) (F := 100000) (d := 60) (cs := []) aH (by kernel_rfl) trivial
abbrev y39 : SV := .agg [cI 2,cS (S [99,111,108]),cS (S [110]),cM 1 []]
theorem qK : V.Spec Tryz.prog (Gl g) 54 [y34,y39] [] (.c (cB false)) [] :=
 aF nFQ nFQ (T := [] ++ T0) (ne := N0e) (df := D0e) (F := 100000) (d := 60) (cs := []) aH (by kernel_rfl) trivial
theorem qJ : V.Spec Tryz.prog (Gl g) 54 [y35,y39] [] (.c (cB false)) [] :=
 aF nFQ nFQ (T := [] ++ T0) (ne := N0e) (df := D0e) (F := 100000) (d := 60) (cs := []) aH (by kernel_rfl) trivial
theorem qI : V.Spec Tryz.prog (Gl g) 54 [y36 [[.i 1],[.i 3],[.i 0]],y39] [] (.c (cB false)) [] :=
 aF nFQ nFQ (T := [] ++ T0) (ne := N0e) (df := D0e) (F := 100000) (d := 60) (cs := []) aH (by kernel_rfl) trivial
theorem qH : V.Spec Tryz.prog (Gl g) 54 [y37 [[.i 2],[.i 2]],y39] [] (.c (cB false)) [] :=
 aF nFQ nFQ (T := [] ++ T0) (ne := N0e) (df := D0e) (F := 100000) (d := 60) (cs := []) aH (by kernel_rfl) trivial
theorem qG : V.Spec Tryz.prog (Gl g) 54 [y38 [[.i 3]],y39] [] (.c (cB false)) [] :=
 aF nFQ nFQ (T := [] ++ T0) (ne := N0e) (df := D0e) (F := 100000) (d := 60) (cs := []) aH (by kernel_rfl) trivial
theorem xH : V.Spec Tryz.prog (Gl g) 55 [.c (cS (S [114,117,108,101,32,78,32,110,117,109,98,101,114,32,39,49,48,39])),.c (.d (.y 32))] [] (.c (cM 1 [[.s (S [114,117,108,101])],[.s (S [78])],[.s (S [110,117,109,98,101,114])],[.s (S [39,49,48,39])]])) [] :=
 aF nFQ nFQ (T := [] ++ T0) (ne := N0e) (df := D0e) (F := 100000) (d := 60) (cs := []) aH (by kernel_rfl) trivial
theorem aCK : V.Spec Tryz.prog (Gl g) 46 [.c (cS (S [110,117,109,98,101,114]))] [] (.c (cB true)) [] :=
 aF nFQ nFQ (T := [] ++ T0) (ne := N0e) (df := D0e) (F := 100000) (d := 60) (cs := []) aH (by kernel_rfl) trivial
abbrev y40 : SV := .agg [cI 2,cS (S [110,117,109,98,101,114]),cS (S [49,48]),cM 1 []]
theorem qF : V.Spec Tryz.prog (Gl g) 54 [y34,y40] [] (.c (cB false)) [] :=
 aF nFQ nFQ (T := [] ++ T0) (ne := N0e) (df := D0e) (F := 100000) (d := 60) (cs := []) aH (by kernel_rfl) trivial
theorem qE : V.Spec Tryz.prog (Gl g) 54 [y35,y40] [] (.c (cB false)) [] :=
 aF nFQ nFQ (T := [] ++ T0) (ne := N0e) (df := D0e) (F := 100000) (d := 60) (cs := []) aH (by kernel_rfl) trivial
theorem qD : V.Spec Tryz.prog (Gl g) 54 [y36 [[.i 1],[.i 3],[.i 0]],y40] [] (.c (cB false)) [] :=
 aF nFQ nFQ (T := [] ++ T0) (ne := N0e) (df := D0e) (F := 100000) (d := 60) (cs := []) aH (by kernel_rfl) trivial
theorem qC : V.Spec Tryz.prog (Gl g) 54 [y37 [[.i 2],[.i 2]],y40] [] (.c (cB false)) [] :=
 aF nFQ nFQ (T := [] ++ T0) (ne := N0e) (df := D0e) (F := 100000) (d := 60) (cs := []) aH (by kernel_rfl) trivial
theorem qB : V.Spec Tryz.prog (Gl g) 54 [y38 [[.i 3]],y40] [] (.c (cB false)) [] :=
 aF nFQ nFQ (T := [] ++ T0) (ne := N0e) (df := D0e) (F := 100000) (d := 60) (cs := []) aH (by kernel_rfl) trivial
theorem qA : V.Spec Tryz.prog (Gl g) 54 [y39,y40] [] (.c (cB false)) [] :=
 aF nFQ nFQ (T := [] ++ T0) (ne := N0e) (df := D0e) (F := 100000) (d := 60) (cs := []) aH (by kernel_rfl) trivial
theorem xG : V.Spec Tryz.prog (Gl g) 55 [.c (cS (S [114,117,108,101,32,67,32,99,111,108,32,39,115,39])),.c (.d (.y 32))] [] (.c (cM 1 [[.s (S [114,117,108,101])],[.s (S [67])],[.s (S [99,111,108])],[.s (S [39,115,39])]])) [] :=
 aF nFQ nFQ (T := [] ++ T0) (ne := N0e) (df := D0e) (F := 100000) (d := 60) (cs := []) aH (by kernel_rfl) trivial
abbrev y41 : SV := .agg [cI 3,cS (S [99,111,108]),cS (S [115]),cM 1 []]
theorem p9 : V.Spec Tryz.prog (Gl g) 54 [y34,y41] [] (.c (cB false)) [] :=
 aF nFQ nFQ (T := [] ++ T0) (ne := N0e) (df := D0e) (F := 100000) (d := 60) (cs := []) aH (by kernel_rfl) trivial
theorem p8 : V.Spec Tryz.prog (Gl g) 54 [y35,y41] [] (.c (cB false)) [] :=
 aF nFQ nFQ (T := [] ++ T0) (ne := N0e) (df := D0e) (F := 100000) (d := 60) (cs := []) aH (by kernel_rfl) trivial
theorem p7 : V.Spec Tryz.prog (Gl g) 54 [y36 [[.i 1],[.i 3],[.i 0]],y41] [] (.c (cB false)) [] :=
 aF nFQ nFQ (T := [] ++ T0) (ne := N0e) (df := D0e) (F := 100000) (d := 60) (cs := []) aH (by kernel_rfl) trivial
theorem p6 : V.Spec Tryz.prog (Gl g) 54 [y37 [[.i 2],[.i 2]],y41] [] (.c (cB false)) [] :=
 aF nFQ nFQ (T := [] ++ T0) (ne := N0e) (df := D0e) (F := 100000) (d := 60) (cs := []) aH (by kernel_rfl) trivial
theorem p5 : V.Spec Tryz.prog (Gl g) 54 [y38 [[.i 3]],y41] [] (.c (cB false)) [] :=
 aF nFQ nFQ (T := [] ++ T0) (ne := N0e) (df := D0e) (F := 100000) (d := 60) (cs := []) aH (by kernel_rfl) trivial
theorem p4 : V.Spec Tryz.prog (Gl g) 54 [y39,y41] [] (.c (cB false)) [] :=
 aF nFQ nFQ (T := [] ++ T0) (ne := N0e) (df := D0e) (F := 100000) (d := 60) (cs := []) aH (by kernel_rfl) trivial
theorem p3 : V.Spec Tryz.prog (Gl g) 54 [y40,y41] [] (.c (cB false)) [] :=
 aF nFQ nFQ (T := [] ++ T0) (ne := N0e) (df := D0e) (F := 100000) (d := 60) (cs := []) aH (by kernel_rfl) trivial
theorem xF : V.Spec Tryz.prog (Gl g) 55 [.c (cS (S [114,117,108,101,32,67,32,116,101,120,116,32,39,104,105,103,104,39])),.c (.d (.y 32))] [] (.c (cM 1 [[.s (S [114,117,108,101])],[.s (S [67])],[.s (S [116,101,120,116])],[.s (S [39,104,105,103,104,39])]])) [] :=
 aF nFQ nFQ (T := [] ++ T0) (ne := N0e) (df := D0e) (F := 100000) (d := 60) (cs := []) aH (by kernel_rfl) trivial
abbrev y42 : SV := .agg [cI 3,cS (S [116,101,120,116]),cS (S [104,105,103,104]),cM 1 []]
theorem p0 : V.Spec Tryz.prog (Gl g) 54 [y34,y42] [] (.c (cB false)) [] :=
 aF nFQ nFQ (T := [] ++ T0) (ne := N0e) (df := D0e) (F := 100000) (d := 60) (cs := []) aH (by kernel_rfl) trivial
theorem pZ : V.Spec Tryz.prog (Gl g) 54 [y35,y42] [] (.c (cB false)) [] :=
 aF nFQ nFQ (T := [] ++ T0) (ne := N0e) (df := D0e) (F := 100000) (d := 60) (cs := []) aH (by kernel_rfl) trivial
theorem pY : V.Spec Tryz.prog (Gl g) 54 [y36 [[.i 1],[.i 3],[.i 0]],y42] [] (.c (cB false)) [] :=
 aF nFQ nFQ (T := [] ++ T0) (ne := N0e) (df := D0e) (F := 100000) (d := 60) (cs := []) aH (by kernel_rfl) trivial
theorem pX : V.Spec Tryz.prog (Gl g) 54 [y37 [[.i 2],[.i 2]],y42] [] (.c (cB false)) [] :=
 aF nFQ nFQ (T := [] ++ T0) (ne := N0e) (df := D0e) (F := 100000) (d := 60) (cs := []) aH (by kernel_rfl) trivial
theorem pW : V.Spec Tryz.prog (Gl g) 54 [y38 [[.i 3]],y42] [] (.c (cB false)) [] :=
 aF nFQ nFQ (T := [] ++ T0) (ne := N0e) (df := D0e) (F := 100000) (d := 60) (cs := []) aH (by kernel_rfl) trivial
theorem pV : V.Spec Tryz.prog (Gl g) 54 [y39,y42] [] (.c (cB false)) [] :=
 aF nFQ nFQ (T := [] ++ T0) (ne := N0e) (df := D0e) (F := 100000) (d := 60) (cs := []) aH (by kernel_rfl) trivial
theorem pU : V.Spec Tryz.prog (Gl g) 54 [y40,y42] [] (.c (cB false)) [] :=
 aF nFQ nFQ (T := [] ++ T0) (ne := N0e) (df := D0e) (F := 100000) (d := 60) (cs := []) aH (by kernel_rfl) trivial
theorem pT : V.Spec Tryz.prog (Gl g) 54 [y41,y42] [] (.c (cB false)) [] :=
 aF nFQ nFQ (T := [] ++ T0) (ne := N0e) (df := D0e) (F := 100000) (d := 60) (cs := []) aH (by kernel_rfl) trivial
theorem xE : V.Spec Tryz.prog (Gl g) 55 [.c (cS (S [115,116,97,114,116,32,84])),.c (.d (.y 32))] [] (.c (cM 1 [[.s (S [115,116,97,114,116])],[.s (S [84])]])) [] :=
 aF nFQ nFQ (T := [] ++ T0) (ne := N0e) (df := D0e) (F := 100000) (d := 60) (cs := []) aH (by kernel_rfl) trivial
theorem smp4 : V.Spec Tryz.prog (Gl g) 31 [.c (cS (S [103,114,97,109,109,97,114,32,99,104,111,105,99,101,115,32,49,10,99,111,108,117,109,110,32,115,32,116,101,120,116,10,99,111,108,117,109,110,32,110,32,110,117,109,98,101,114,10,115,121,109,98,111,108,32,84,32,116,101,120,116,32,53,10,115,121,109,98,111,108,32,66,32,98,111,111,108,32,51,10,115,121,109,98,111,108,32,78,32,110,117,109,98,101,114,32,49,10,115,121,109,98,111,108,32,67,32,116,101,120,116,32,49,10,114,117,108,101,32,84,32,99,111,108,32,39,115,39,10,114,117,108,101,32,84,32,116,101,120,116,32,39,108,111,119,39,10,114,117,108,101,32,84,32,105,102,32,39,116,101,120,116,39,32,66,32,67,32,84,10,114,117,108,101,32,66,32,108,101,115,115,32,39,39,32,78,32,78,10,114,117,108,101,32,66,32,109,97,116,99,104,32,39,92,117,43,39,32,67,10,114,117,108,101,32,78,32,99,111,108,32,39,110,39,10,114,117,108,101,32,78,32,110,117,109,98,101,114,32,39,49,48,39,10,114,117,108,101,32,67,32,99,111,108,32,39,115,39,10,114,117,108,101,32,67,32,116,101,120,116,32,39,104,105,103,104,39,10,115,116,97,114,116,32,84,10]))] [] (.tup [(true,[cS (S [99,104,111,105,99,101,115]),cI 1,cM 2 [[.s (S [115]),.i 1],[.s (S [110]),.i 2]],cM 3 [[.s (S [84]),.i 1,.i 5],[.s (S [66]),.i 4,.i 3],[.s (S [78]),.i 2,.i 1],[.s (S [67]),.i 1,.i 1]],cM 4 [[.i 0,.s (S [99,111,108]),.s (S [115]),.sl 1 []],[.i 0,.s (S [116,101,120,116]),.s (S [108,111,119]),.sl 1 []],[.i 0,.s (S [105,102]),.s (S [116,101,120,116]),.sl 1 [[.i 1],[.i 3],[.i 0]]],[.i 1,.s (S [108,101,115,115]),.s (S []),.sl 1 [[.i 2],[.i 2]]],[.i 1,.s (S [109,97,116,99,104]),.s (S [92,117,43]),.sl 1 [[.i 3]]],[.i 2,.s (S [99,111,108]),.s (S [110]),.sl 1 []],[.i 2,.s (S [110,117,109,98,101,114]),.s (S [49,48]),.sl 1 []],[.i 3,.s (S [99,111,108]),.s (S [115]),.sl 1 []],[.i 3,.s (S [116,101,120,116]),.s (S [104,105,103,104]),.sl 1 []]],cI 0]),(false,[cI 0]),(false,[cI 0])]) [] :=
 aF nFQ (fun k => bif Nat.ble 5275 k then (bif Nat.ble 6466 k then (mkL [6944,7658] [(6466,12),(7056,12),(7821,12)] k) else (mkL [5707,6337] [(5275,12),(5819,12)] k)) else (bif Nat.ble 3670 k then (mkL [3670,4378,5080] [(3962,12),(4562,12)] k) else (mkL [2488,3011] [(2600,12),(3157,12)] k))) (T := [cQ 55 [⟨_,_,aCJ⟩,⟨_,_,aCI⟩,⟨_,_,aCH⟩,⟨_,_,aCG⟩,⟨_,_,aCF⟩,⟨_,_,aCE⟩,⟨_,_,aCD⟩,⟨_,_,aCC⟩,⟨_,_,aCB⟩,⟨_,_,xO⟩,⟨_,_,xN⟩,⟨_,_,xM⟩,⟨_,_,xL⟩,⟨_,_,xK⟩,⟨_,_,xJ⟩,⟨_,_,xI⟩,⟨_,_,xH⟩,⟨_,_,xG⟩,⟨_,_,xF⟩,⟨_,_,xE⟩],cQ 46 [⟨_,_,aFD⟩,⟨_,_,aFC⟩,⟨_,_,aFB⟩,⟨_,_,aFA⟩,⟨_,_,aE9⟩,⟨_,_,aE8⟩,⟨_,_,aE7⟩,⟨_,_,aE6⟩,⟨_,_,aE5⟩,⟨_,_,aCN⟩,⟨_,_,aCM⟩,⟨_,_,aCL⟩,⟨_,_,aCK⟩],cQ 156 [⟨_,_,xR⟩,⟨_,_,xQ⟩,⟨_,_,xP⟩],cQ 157 [⟨_,_,uN⟩,⟨_,_,uM⟩,⟨_,_,uL⟩,⟨_,_,uK⟩,⟨_,_,uJ⟩,⟨_,_,uI⟩,⟨_,_,uH⟩,⟨_,_,uG⟩,⟨_,_,uF⟩,⟨_,_,sH⟩,⟨_,_,sG⟩,⟨_,_,sF⟩,⟨_,_,sE⟩],cQ 54 [⟨_,_,sD⟩,⟨_,_,sC⟩,⟨_,_,sB⟩,⟨_,_,sA⟩,⟨_,_,r9⟩,⟨_,_,r8⟩,⟨_,_,r7⟩,⟨_,_,r6⟩,⟨_,_,r5⟩,⟨_,_,qL⟩,⟨_,_,qK⟩,⟨_,_,qJ⟩,⟨_,_,qI⟩,⟨_,_,qH⟩,⟨_,_,qG⟩,⟨_,_,qF⟩,⟨_,_,qE⟩,⟨_,_,qD⟩,⟨_,_,qC⟩,⟨_,_,qB⟩,⟨_,_,qA⟩,⟨_,_,p9⟩,⟨_,_,p8⟩,⟨_,_,p7⟩,⟨_,_,p6⟩,⟨_,_,p5⟩,⟨_,_,p4⟩,⟨_,_,p3⟩,⟨_,_,p0⟩,⟨_,_,pZ⟩,⟨_,_,pY⟩,⟨_,_,pX⟩,⟨_,_,pW⟩,⟨_,_,pV⟩,⟨_,_,pU⟩,⟨_,_,pT⟩]] ++ T0) (ne := N0e) (df := D0e) (F := 100000) (d := 60) (cs := []) aH (by kernel_rfl) trivial
end Go.Proofs.YtgpedhfdniigoaaGreatDoor
