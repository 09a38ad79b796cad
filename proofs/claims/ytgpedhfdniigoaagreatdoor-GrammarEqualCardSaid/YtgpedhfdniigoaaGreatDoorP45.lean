/- Part 45 of the proof. -/
import Derived.Test.YtgpedhfdniigoaaGreatDoorP39
set_option linter.all false
namespace Go.Proofs.YtgpedhfdniigoaaGreatDoor
set_option maxRecDepth 100000
open Go.RowKit Go.V
variable {g : Gv}
theorem aB7 : V.Spec Tryz.prog (Gl g) 55 [.c (cS (S [103,114,97,109,109,97,114,32,116,97,98,108,101,115,32,49])),.c (.d (.y 32))] [] (.c (cM 1 [[.s (S [103,114,97,109,109,97,114])],[.s (S [116,97,98,108,101,115])],[.s (S [49])]])) [] :=
 aF nFQ nFQ (T := [] ++ T0) (ne := N0e) (df := D0e) (F := 100000) (d := 60) (cs := []) aH (by kernel_rfl) trivial
theorem aE4 : V.Spec Tryz.prog (Gl g) 46 [.c (cS (S [116,97,98,108,101,115]))] [] (.c (cB true)) [] :=
 aF nFQ nFQ (T := [] ++ T0) (ne := N0e) (df := D0e) (F := 100000) (d := 60) (cs := []) aH (by kernel_rfl) trivial
theorem xD : V.Spec Tryz.prog (Gl g) 156 [.c (cS (S [49]))] [] (y31) [] :=
 aF nFQ nFQ (T := [] ++ T0) (ne := N0e) (df := D0e) (F := 100000) (d := 60) (cs := []) aH (by kernel_rfl) trivial
theorem aB6 : V.Spec Tryz.prog (Gl g) 55 [.c (cS (S [99,111,108,117,109,110,32,105,116,101,109,115,32,116,97,98,108,101])),.c (.d (.y 32))] [] (.c (cM 1 [[.s (S [99,111,108,117,109,110])],[.s (S [105,116,101,109,115])],[.s (S [116,97,98,108,101])]])) [] :=
 aF nFQ nFQ (T := [] ++ T0) (ne := N0e) (df := D0e) (F := 100000) (d := 60) (cs := []) aH (by kernel_rfl) trivial
theorem aE3 : V.Spec Tryz.prog (Gl g) 46 [.c (cS (S [105,116,101,109,115]))] [] (.c (cB true)) [] :=
 aF nFQ nFQ (T := [] ++ T0) (ne := N0e) (df := D0e) (F := 100000) (d := 60) (cs := []) aH (by kernel_rfl) trivial
theorem uE : V.Spec Tryz.prog (Gl g) 157 [.c (cM 1 [[.s (S [])],[.s (S [116,101,120,116])],[.s (S [110,117,109,98,101,114])],[.s (S [100,97,116,101])],[.s (S [98,111,111,108])],[.s (S [116,97,98,108,101])]]),.c (cS (S [116,97,98,108,101]))] [] (.c (cI 5)) [] :=
 aF nFQ nFQ (T := [] ++ T0) (ne := N0e) (df := D0e) (F := 100000) (d := 60) (cs := []) aH (by kernel_rfl) trivial
theorem uD : V.Spec Tryz.prog (Gl g) 157 [.c (.d (nlD)),.c (cS (S [105,116,101,109,115]))] [] (.c (cI (-1))) [] :=
 aF nFQ nFQ (T := [] ++ T0) (ne := N0e) (df := D0e) (F := 100000) (d := 60) (cs := []) aH (by kernel_rfl) trivial
theorem aB5 : V.Spec Tryz.prog (Gl g) 55 [.c (cS (S [99,111,108,117,109,110,32,107,32,116,101,120,116])),.c (.d (.y 32))] [] (.c (cM 1 [[.s (S [99,111,108,117,109,110])],[.s (S [107])],[.s (S [116,101,120,116])]])) [] :=
 aF nFQ nFQ (T := [] ++ T0) (ne := N0e) (df := D0e) (F := 100000) (d := 60) (cs := []) aH (by kernel_rfl) trivial
theorem aE2 : V.Spec Tryz.prog (Gl g) 46 [.c (cS (S [107]))] [] (.c (cB true)) [] :=
 aF nFQ nFQ (T := [] ++ T0) (ne := N0e) (df := D0e) (F := 100000) (d := 60) (cs := []) aH (by kernel_rfl) trivial
theorem uC : V.Spec Tryz.prog (Gl g) 157 [.c (cM 1 [[.s (S [])],[.s (S [116,101,120,116])],[.s (S [110,117,109,98,101,114])],[.s (S [100,97,116,101])],[.s (S [98,111,111,108])],[.s (S [116,97,98,108,101])]]),.c (cS (S [116,101,120,116]))] [] (.c (cI 1)) [] :=
 aF nFQ nFQ (T := [] ++ T0) (ne := N0e) (df := D0e) (F := 100000) (d := 60) (cs := []) aH (by kernel_rfl) trivial
theorem uB : V.Spec Tryz.prog (Gl g) 157 [.c (cM 1 [[.s (S [105,116,101,109,115])]]),.c (cS (S [107]))] [] (.c (cI (-1))) [] :=
 aF nFQ nFQ (T := [] ++ T0) (ne := N0e) (df := D0e) (F := 100000) (d := 60) (cs := []) aH (by kernel_rfl) trivial
theorem aB4 : V.Spec Tryz.prog (Gl g) 55 [.c (cS (S [115,121,109,98,111,108,32,78,32,110,117,109,98,101,114,32,52])),.c (.d (.y 32))] [] (.c (cM 1 [[.s (S [115,121,109,98,111,108])],[.s (S [78])],[.s (S [110,117,109,98,101,114])],[.s (S [52])]])) [] :=
 aF nFQ nFQ (T := [] ++ T0) (ne := N0e) (df := D0e) (F := 100000) (d := 60) (cs := []) aH (by kernel_rfl) trivial
theorem aE1 : V.Spec Tryz.prog (Gl g) 46 [.c (cS (S [78]))] [] (.c (cB true)) [] :=
 aF nFQ nFQ (T := [] ++ T0) (ne := N0e) (df := D0e) (F := 100000) (d := 60) (cs := []) aH (by kernel_rfl) trivial
theorem uA : V.Spec Tryz.prog (Gl g) 157 [.c (cM 1 [[.s (S [])],[.s (S [116,101,120,116])],[.s (S [110,117,109,98,101,114])],[.s (S [100,97,116,101])],[.s (S [98,111,111,108])],[.s (S [116,97,98,108,101])]]),.c (cS (S [110,117,109,98,101,114]))] [] (.c (cI 2)) [] :=
 aF nFQ nFQ (T := [] ++ T0) (ne := N0e) (df := D0e) (F := 100000) (d := 60) (cs := []) aH (by kernel_rfl) trivial
theorem xC : V.Spec Tryz.prog (Gl g) 156 [.c (cS (S [52]))] [] (y32) [] :=
 aF nFQ nFQ (T := [] ++ T0) (ne := N0e) (df := D0e) (F := 100000) (d := 60) (cs := []) aH (by kernel_rfl) trivial
theorem t8 : V.Spec Tryz.prog (Gl g) 157 [.c (.d (nlD)),.c (cS (S [78]))] [] (.c (cI (-1))) [] :=
 aF nFQ nFQ (T := [] ++ T0) (ne := N0e) (df := D0e) (F := 100000) (d := 60) (cs := []) aH (by kernel_rfl) trivial
theorem aB3 : V.Spec Tryz.prog (Gl g) 55 [.c (cS (S [115,121,109,98,111,108,32,88,32,116,97,98,108,101,32,51])),.c (.d (.y 32))] [] (.c (cM 1 [[.s (S [115,121,109,98,111,108])],[.s (S [88])],[.s (S [116,97,98,108,101])],[.s (S [51])]])) [] :=
 aF nFQ nFQ (T := [] ++ T0) (ne := N0e) (df := D0e) (F := 100000) (d := 60) (cs := []) aH (by kernel_rfl) trivial
theorem aE0 : V.Spec Tryz.prog (Gl g) 46 [.c (cS (S [88]))] [] (.c (cB true)) [] :=
 aF nFQ nFQ (T := [] ++ T0) (ne := N0e) (df := D0e) (F := 100000) (d := 60) (cs := []) aH (by kernel_rfl) trivial
theorem xB : V.Spec Tryz.prog (Gl g) 156 [.c (cS (S [51]))] [] (y33) [] :=
 aF nFQ nFQ (T := [] ++ T0) (ne := N0e) (df := D0e) (F := 100000) (d := 60) (cs := []) aH (by kernel_rfl) trivial
theorem t7 : V.Spec Tryz.prog (Gl g) 157 [.c (cM 1 [[.s (S [78])]]),.c (cS (S [88]))] [] (.c (cI (-1))) [] :=
 aF nFQ nFQ (T := [] ++ T0) (ne := N0e) (df := D0e) (F := 100000) (d := 60) (cs := []) aH (by kernel_rfl) trivial
theorem aB2 : V.Spec Tryz.prog (Gl g) 55 [.c (cS (S [115,121,109,98,111,108,32,84,32,116,101,120,116,32,49])),.c (.d (.y 32))] [] (.c (cM 1 [[.s (S [115,121,109,98,111,108])],[.s (S [84])],[.s (S [116,101,120,116])],[.s (S [49])]])) [] :=
 aF nFQ nFQ (T := [] ++ T0) (ne := N0e) (df := D0e) (F := 100000) (d := 60) (cs := []) aH (by kernel_rfl) trivial
theorem aEZ : V.Spec Tryz.prog (Gl g) 46 [.c (cS (S [84]))] [] (.c (cB true)) [] :=
 aF nFQ nFQ (T := [] ++ T0) (ne := N0e) (df := D0e) (F := 100000) (d := 60) (cs := []) aH (by kernel_rfl) trivial
theorem t6 : V.Spec Tryz.prog (Gl g) 157 [.c (cM 1 [[.s (S [78])],[.s (S [88])]]),.c (cS (S [84]))] [] (.c (cI (-1))) [] :=
 aF nFQ nFQ (T := [] ++ T0) (ne := N0e) (df := D0e) (F := 100000) (d := 60) (cs := []) aH (by kernel_rfl) trivial
theorem aB1 : V.Spec Tryz.prog (Gl g) 55 [.c (cS (S [114,117,108,101,32,78,32,115,117,109,32,39,97,109,111,117,110,116,62,61,48,39,32,88])),.c (.d (.y 32))] [] (.c (cM 1 [[.s (S [114,117,108,101])],[.s (S [78])],[.s (S [115,117,109])],[.s (S [39,97,109,111,117,110,116,62,61,48,39])],[.s (S [88])]])) [] :=
 aF nFQ nFQ (T := [] ++ T0) (ne := N0e) (df := D0e) (F := 100000) (d := 60) (cs := []) aH (by kernel_rfl) trivial
theorem aB0 : V.Spec Tryz.prog (Gl g) 55 [.c (cS (S [32,88])),.c (.d (.y 32))] [] (.c (cM 1 [[.s (S [])],[.s (S [88])]])) [] :=
 aF nFQ nFQ (T := [] ++ T0) (ne := N0e) (df := D0e) (F := 100000) (d := 60) (cs := []) aH (by kernel_rfl) trivial
theorem aEY : V.Spec Tryz.prog (Gl g) 46 [.c (cS (S [115,117,109]))] [] (.c (cB true)) [] :=
 aF nFQ nFQ (T := [] ++ T0) (ne := N0e) (df := D0e) (F := 100000) (d := 60) (cs := []) aH (by kernel_rfl) trivial
theorem tZ : V.Spec Tryz.prog (Gl g) 157 [.c (cM 1 [[.s (S [78])],[.s (S [88])],[.s (S [84])]]),.c (cS (S [78]))] [] (.c (cI 0)) [] :=
 aF nFQ nFQ (T := [] ++ T0) (ne := N0e) (df := D0e) (F := 100000) (d := 60) (cs := []) aH (by kernel_rfl) trivial
theorem r4 : V.Spec Tryz.prog (Gl g) 157 [.c (cM 1 [[.s (S [78])],[.s (S [88])],[.s (S [84])]]),.c (cS (S [88]))] [] (.c (cI 1)) [] :=
 aF nFQ nFQ (T := [] ++ T0) (ne := N0e) (df := D0e) (F := 100000) (d := 60) (cs := []) aH (by kernel_rfl) trivial
theorem aBZ : V.Spec Tryz.prog (Gl g) 55 [.c (cS (S [114,117,108,101,32,78,32,99,111,117,110,116,32,39,39,32,88])),.c (.d (.y 32))] [] (.c (cM 1 [[.s (S [114,117,108,101])],[.s (S [78])],[.s (S [99,111,117,110,116])],[.s (S [39,39])],[.s (S [88])]])) [] :=
 aF nFQ nFQ (T := [] ++ T0) (ne := N0e) (df := D0e) (F := 100000) (d := 60) (cs := []) aH (by kernel_rfl) trivial
theorem aEX : V.Spec Tryz.prog (Gl g) 46 [.c (cS (S [99,111,117,110,116]))] [] (.c (cB true)) [] :=
 aF nFQ nFQ (T := [] ++ T0) (ne := N0e) (df := D0e) (F := 100000) (d := 60) (cs := []) aH (by kernel_rfl) trivial
abbrev y43 (a0 : LD) : SV := .agg [cI 0,cS (S [115,117,109]),cS (S [97,109,111,117,110,116,62,61,48]),cM 1 a0]
abbrev y44 (a0 : LD) : SV := .agg [cI 0,cS (S [99,111,117,110,116]),cS (S []),cM 1 a0]
theorem rZ : V.Spec Tryz.prog (Gl g) 54 [y43 [[.i 1]],y44 [[.i 1]]] [] (.c (cB false)) [] :=
 aF nFQ nFQ (T := [] ++ T0) (ne := N0e) (df := D0e) (F := 100000) (d := 60) (cs := []) aH (by kernel_rfl) trivial
theorem xA : V.Spec Tryz.prog (Gl g) 55 [.c (cS (S [114,117,108,101,32,78,32,97,100,100,32,39,39,32,78,32,78])),.c (.d (.y 32))] [] (.c (cM 1 [[.s (S [114,117,108,101])],[.s (S [78])],[.s (S [97,100,100])],[.s (S [39,39])],[.s (S [78])],[.s (S [78])]])) [] :=
 aF nFQ nFQ (T := [] ++ T0) (ne := N0e) (df := D0e) (F := 100000) (d := 60) (cs := []) aH (by kernel_rfl) trivial
theorem w9 : V.Spec Tryz.prog (Gl g) 55 [.c (cS (S [32,78,32,78])),.c (.d (.y 32))] [] (.c (cM 1 [[.s (S [])],[.s (S [78])],[.s (S [78])]])) [] :=
 aF nFQ nFQ (T := [] ++ T0) (ne := N0e) (df := D0e) (F := 100000) (d := 60) (cs := []) aH (by kernel_rfl) trivial
theorem aEW : V.Spec Tryz.prog (Gl g) 46 [.c (cS (S [97,100,100]))] [] (.c (cB true)) [] :=
 aF nFQ nFQ (T := [] ++ T0) (ne := N0e) (df := D0e) (F := 100000) (d := 60) (cs := []) aH (by kernel_rfl) trivial
abbrev y45 (a0 : LD) : SV := .agg [cI 0,cS (S [97,100,100]),cS (S []),cM 1 a0]
theorem rY : V.Spec Tryz.prog (Gl g) 54 [y43 [[.i 1]],y45 [[.i 0],[.i 0]]] [] (.c (cB false)) [] :=
 aF nFQ nFQ (T := [] ++ T0) (ne := N0e) (df := D0e) (F := 100000) (d := 60) (cs := []) aH (by kernel_rfl) trivial
theorem rX : V.Spec Tryz.prog (Gl g) 54 [y44 [[.i 1]],y45 [[.i 0],[.i 0]]] [] (.c (cB false)) [] :=
 aF nFQ nFQ (T := [] ++ T0) (ne := N0e) (df := D0e) (F := 100000) (d := 60) (cs := []) aH (by kernel_rfl) trivial
theorem w8 : V.Spec Tryz.prog (Gl g) 55 [.c (cS (S [114,117,108,101,32,88,32,99,111,108,32,39,105,116,101,109,115,39])),.c (.d (.y 32))] [] (.c (cM 1 [[.s (S [114,117,108,101])],[.s (S [88])],[.s (S [99,111,108])],[.s (S [39,105,116,101,109,115,39])]])) [] :=
 aF nFQ nFQ (T := [] ++ T0) (ne := N0e) (df := D0e) (F := 100000) (d := 60) (cs := []) aH (by kernel_rfl) trivial
theorem aCA : V.Spec Tryz.prog (Gl g) 46 [.c (cS (S [99,111,108]))] [] (.c (cB true)) [] :=
 aF nFQ nFQ (T := [] ++ T0) (ne := N0e) (df := D0e) (F := 100000) (d := 60) (cs := []) aH (by kernel_rfl) trivial
abbrev y46 : SV := .agg [cI 1,cS (S [99,111,108]),cS (S [105,116,101,109,115]),cM 1 []]
theorem rW : V.Spec Tryz.prog (Gl g) 54 [y43 [[.i 1]],y46] [] (.c (cB false)) [] :=
 aF nFQ nFQ (T := [] ++ T0) (ne := N0e) (df := D0e) (F := 100000) (d := 60) (cs := []) aH (by kernel_rfl) trivial
theorem rV : V.Spec Tryz.prog (Gl g) 54 [y44 [[.i 1]],y46] [] (.c (cB false)) [] :=
 aF nFQ nFQ (T := [] ++ T0) (ne := N0e) (df := D0e) (F := 100000) (d := 60) (cs := []) aH (by kernel_rfl) trivial
theorem rU : V.Spec Tryz.prog (Gl g) 54 [y45 [[.i 0],[.i 0]],y46] [] (.c (cB false)) [] :=
 aF nFQ nFQ (T := [] ++ T0) (ne := N0e) (df := D0e) (F := 100000) (d := 60) (cs := []) aH (by kernel_rfl) trivial
theorem w7 : V.Spec Tryz.prog (Gl g) 55 [.c (cS (S [114,117,108,101,32,88,32,119,104,101,114,101,32,39,107,105,110,100,39,32,88,32,84])),.c (.d (.y 32))] [] (.c (cM 1 [[.s (S [114,117,108,101])],[.s (S [88])],[.s (S [119,104,101,114,101])],[.s (S [39,107,105,110,100,39])],[.s (S [88])],[.s (S [84])]])) [] :=
 aF nFQ nFQ (T := [] ++ T0) (ne := N0e) (df := D0e) (F := 100000) (d := 60) (cs := []) aH (by kernel_rfl) trivial
theorem w6 : V.Spec Tryz.prog (Gl g) 55 [.c (cS (S [32,88,32,84])),.c (.d (.y 32))] [] (.c (cM 1 [[.s (S [])],[.s (S [88])],[.s (S [84])]])) [] :=
 aF nFQ nFQ (T := [] ++ T0) (ne := N0e) (df := D0e) (F := 100000) (d := 60) (cs := []) aH (by kernel_rfl) trivial
theorem aB9 : V.Spec Tryz.prog (Gl g) 46 [.c (cS (S [119,104,101,114,101]))] [] (.c (cB true)) [] :=
 aF nFQ nFQ (T := [] ++ T0) (ne := N0e) (df := D0e) (F := 100000) (d := 60) (cs := []) aH (by kernel_rfl) trivial
theorem r3 : V.Spec Tryz.prog (Gl g) 157 [.c (cM 1 [[.s (S [78])],[.s (S [88])],[.s (S [84])]]),.c (cS (S [84]))] [] (.c (cI 2)) [] :=
 aF nFQ nFQ (T := [] ++ T0) (ne := N0e) (df := D0e) (F := 100000) (d := 60) (cs := []) aH (by kernel_rfl) trivial
abbrev y47 (a0 : LD) : SV := .agg [cI 1,cS (S [119,104,101,114,101]),cS (S [107,105,110,100]),cM 1 a0]
theorem rT : V.Spec Tryz.prog (Gl g) 54 [y43 [[.i 1]],y47 [[.i 1],[.i 2]]] [] (.c (cB false)) [] :=
 aF nFQ nFQ (T := [] ++ T0) (ne := N0e) (df := D0e) (F := 100000) (d := 60) (cs := []) aH (by kernel_rfl) trivial
theorem rS : V.Spec Tryz.prog (Gl g) 54 [y44 [[.i 1]],y47 [[.i 1],[.i 2]]] [] (.c (cB false)) [] :=
 aF nFQ nFQ (T := [] ++ T0) (ne := N0e) (df := D0e) (F := 100000) (d := 60) (cs := []) aH (by kernel_rfl) trivial
theorem rR : V.Spec Tryz.prog (Gl g) 54 [y45 [[.i 0],[.i 0]],y47 [[.i 1],[.i 2]]] [] (.c (cB false)) [] :=
 aF nFQ nFQ (T := [] ++ T0) (ne := N0e) (df := D0e) (F := 100000) (d := 60) (cs := []) aH (by kernel_rfl) trivial
theorem pS : V.Spec Tryz.prog (Gl g) 54 [y46,y47 [[.i 1],[.i 2]]] [] (.c (cB false)) [] :=
 aF nFQ nFQ (T := [] ++ T0) (ne := N0e) (df := D0e) (F := 100000) (d := 60) (cs := []) aH (by kernel_rfl) trivial
theorem w5 : V.Spec Tryz.prog (Gl g) 55 [.c (cS (S [114,117,108,101,32,84,32,99,111,108,32,39,107,39])),.c (.d (.y 32))] [] (.c (cM 1 [[.s (S [114,117,108,101])],[.s (S [84])],[.s (S [99,111,108])],[.s (S [39,107,39])]])) [] :=
 aF nFQ nFQ (T := [] ++ T0) (ne := N0e) (df := D0e) (F := 100000) (d := 60) (cs := []) aH (by kernel_rfl) trivial
abbrev y48 : SV := .agg [cI 2,cS (S [99,111,108]),cS (S [107]),cM 1 []]
theorem pR : V.Spec Tryz.prog (Gl g) 54 [y43 [[.i 1]],y48] [] (.c (cB false)) [] :=
 aF nFQ nFQ (T := [] ++ T0) (ne := N0e) (df := D0e) (F := 100000) (d := 60) (cs := []) aH (by kernel_rfl) trivial
theorem pQ : V.Spec Tryz.prog (Gl g) 54 [y44 [[.i 1]],y48] [] (.c (cB false)) [] :=
 aF nFQ nFQ (T := [] ++ T0) (ne := N0e) (df := D0e) (F := 100000) (d := 60) (cs := []) aH (by kernel_rfl) trivial
theorem pP : V.Spec Tryz.prog (Gl g) 54 [y45 [[.i 0],[.i 0]],y48] [] (.c (cB false)) [] :=
 aF nFQ nFQ (T := [] ++ T0) (ne := N0e) (df := D0e) (F := 100000) (d := 60) (cs := []) aH (by kernel_rfl) trivial
theorem pO : V.Spec Tryz.prog (Gl g) 54 [y46,y48] [] (.c (cB false)) [] :=
 aF nFQ nFQ (T := [] ++ T0) (ne := N0e) (df := D0e) (F := 100000) (d := 60) (cs := []) aH (by kernel_rfl) trivial
theorem pN : V.Spec Tryz.prog (Gl g) 54 [y47 [[.i 1],[.i 2]],y48] [] (.c (cB false)) [] :=
 aF nFQ nFQ (T := [] ++ T0) (ne := N0e) (df := D0e) (F := 100000) (d := 60) (cs := []) aH (by kernel_rfl) trivial
theorem w4 : V.Spec Tryz.prog (Gl g) 55 [.c (cS (S [114,117,108,101,32,84,32,116,101,120,116,32,39,97,39])),.c (.d (.y 32))] [] (.c (cM 1 [[.s (S [114,117,108,101])],[.s (S [84])],[.s (S [116,101,120,116])],[.s (S [39,97,39])]])) [] :=
 aF nFQ nFQ (T := [] ++ T0) (ne := N0e) (df := D0e) (F := 100000) (d := 60) (cs := []) aH (by kernel_rfl) trivial
theorem aB8 : V.Spec Tryz.prog (Gl g) 46 [.c (cS (S [116,101,120,116]))] [] (.c (cB true)) [] :=
 aF nFQ nFQ (T := [] ++ T0) (ne := N0e) (df := D0e) (F := 100000) (d := 60) (cs := []) aH (by kernel_rfl) trivial
abbrev y49 : SV := .agg [cI 2,cS (S [116,101,120,116]),cS (S [97]),cM 1 []]
theorem pM : V.Spec Tryz.prog (Gl g) 54 [y43 [[.i 1]],y49] [] (.c (cB false)) [] :=
 aF nFQ nFQ (T := [] ++ T0) (ne := N0e) (df := D0e) (F := 100000) (d := 60) (cs := []) aH (by kernel_rfl) trivial
theorem pL : V.Spec Tryz.prog (Gl g) 54 [y44 [[.i 1]],y49] [] (.c (cB false)) [] :=
 aF nFQ nFQ (T := [] ++ T0) (ne := N0e) (df := D0e) (F := 100000) (d := 60) (cs := []) aH (by kernel_rfl) trivial
theorem pK : V.Spec Tryz.prog (Gl g) 54 [y45 [[.i 0],[.i 0]],y49] [] (.c (cB false)) [] :=
 aF nFQ nFQ (T := [] ++ T0) (ne := N0e) (df := D0e) (F := 100000) (d := 60) (cs := []) aH (by kernel_rfl) trivial
theorem pJ : V.Spec Tryz.prog (Gl g) 54 [y46,y49] [] (.c (cB false)) [] :=
 aF nFQ nFQ (T := [] ++ T0) (ne := N0e) (df := D0e) (F := 100000) (d := 60) (cs := []) aH (by kernel_rfl) trivial
theorem pI : V.Spec Tryz.prog (Gl g) 54 [y47 [[.i 1],[.i 2]],y49] [] (.c (cB false)) [] :=
 aF nFQ nFQ (T := [] ++ T0) (ne := N0e) (df := D0e) (F := 100000) (d := 60) (cs := []) aH (by kernel_rfl) trivial
theorem pH : V.Spec Tryz.prog (Gl g) 54 [y48,y49] [] (.c (cB false)) [] :=
 aF nFQ nFQ (T := [] ++ T0) (ne := N0e) (df := D0e) (F := 100000) (d := 60) (cs := []) aH (by kernel_rfl) trivial
theorem wZ : V.Spec Tryz.prog (Gl g) 55 [.c (cS (S [115,116,97,114,116,32,78])),.c (.d (.y 32))] [] (.c (cM 1 [[.s (S [115,116,97,114,116])],[.s (S [78])]])) [] :=
 aF nFQ nFQ (T := [] ++ T0) (ne := N0e) (df := D0e) (F := 100000) (d := 60) (cs := []) aH (by kernel_rfl) trivial
theorem smp5 : V.Spec Tryz.prog (Gl g) 31 [.c (cS (S [103,114,97,109,109,97,114,32,116,97,98,108,101,115,32,49,10,99,111,108,117,109,110,32,105,116,101,109,115,32,116,97,98,108,101,10,99,111,108,117,109,110,32,107,32,116,101,120,116,10,115,121,109,98,111,108,32,78,32,110,117,109,98,101,114,32,52,10,115,121,109,98,111,108,32,88,32,116,97,98,108,101,32,51,10,115,121,109,98,111,108,32,84,32,116,101,120,116,32,49,10,114,117,108,101,32,78,32,115,117,109,32,39,97,109,111,117,110,116,62,61,48,39,32,88,10,114,117,108,101,32,78,32,99,111,117,110,116,32,39,39,32,88,10,114,117,108,101,32,78,32,97,100,100,32,39,39,32,78,32,78,10,114,117,108,101,32,88,32,99,111,108,32,39,105,116,101,109,115,39,10,114,117,108,101,32,88,32,119,104,101,114,101,32,39,107,105,110,100,39,32,88,32,84,10,114,117,108,101,32,84,32,99,111,108,32,39,107,39,10,114,117,108,101,32,84,32,116,101,120,116,32,39,97,39,10,115,116,97,114,116,32,78,10]))] [] (.tup [(true,[cS (S [116,97,98,108,101,115]),cI 1,cM 2 [[.s (S [105,116,101,109,115]),.i 5],[.s (S [107]),.i 1]],cM 3 [[.s (S [78]),.i 2,.i 4],[.s (S [88]),.i 5,.i 3],[.s (S [84]),.i 1,.i 1]],cM 4 [[.i 0,.s (S [115,117,109]),.s (S [97,109,111,117,110,116,62,61,48]),.sl 1 [[.i 1]]],[.i 0,.s (S [99,111,117,110,116]),.s (S []),.sl 1 [[.i 1]]],[.i 0,.s (S [97,100,100]),.s (S []),.sl 1 [[.i 0],[.i 0]]],[.i 1,.s (S [99,111,108]),.s (S [105,116,101,109,115]),.sl 1 []],[.i 1,.s (S [119,104,101,114,101]),.s (S [107,105,110,100]),.sl 1 [[.i 1],[.i 2]]],[.i 2,.s (S [99,111,108]),.s (S [107]),.sl 1 []],[.i 2,.s (S [116,101,120,116]),.s (S [97]),.sl 1 []]],cI 0]),(false,[cI 0]),(false,[cI 0])]) [] :=
 aF nFQ (fun k => bif Nat.ble 4524 k then (bif Nat.ble 5778 k then (mkL [5778,6356] [(5890,12),(6468,12)] k) else (mkL [5094] [(4524,12),(5346,12)] k)) else (bif Nat.ble 3272 k then (mkL [3654,4344] [(3272,12),(3838,12)] k) else (mkL [2472,3128] [(2769,12)] k))) (T := [cQ 55 [⟨_,_,aB7⟩,⟨_,_,aB6⟩,⟨_,_,aB5⟩,⟨_,_,aB4⟩,⟨_,_,aB3⟩,⟨_,_,aB2⟩,⟨_,_,aB1⟩,⟨_,_,aB0⟩,⟨_,_,aBZ⟩,⟨_,_,xA⟩,⟨_,_,w9⟩,⟨_,_,w8⟩,⟨_,_,w7⟩,⟨_,_,w6⟩,⟨_,_,w5⟩,⟨_,_,w4⟩,⟨_,_,wZ⟩],cQ 46 [⟨_,_,aE4⟩,⟨_,_,aE3⟩,⟨_,_,aE2⟩,⟨_,_,aE1⟩,⟨_,_,aE0⟩,⟨_,_,aEZ⟩,⟨_,_,aEY⟩,⟨_,_,aEX⟩,⟨_,_,aEW⟩,⟨_,_,aCA⟩,⟨_,_,aB9⟩,⟨_,_,aB8⟩],cQ 156 [⟨_,_,xD⟩,⟨_,_,xC⟩,⟨_,_,xB⟩],cQ 157 [⟨_,_,uE⟩,⟨_,_,uD⟩,⟨_,_,uC⟩,⟨_,_,uB⟩,⟨_,_,uA⟩,⟨_,_,t8⟩,⟨_,_,t7⟩,⟨_,_,t6⟩,⟨_,_,tZ⟩,⟨_,_,r4⟩,⟨_,_,r3⟩],cQ 54 [⟨_,_,rZ⟩,⟨_,_,rY⟩,⟨_,_,rX⟩,⟨_,_,rW⟩,⟨_,_,rV⟩,⟨_,_,rU⟩,⟨_,_,rT⟩,⟨_,_,rS⟩,⟨_,_,rR⟩,⟨_,_,pS⟩,⟨_,_,pR⟩,⟨_,_,pQ⟩,⟨_,_,pP⟩,⟨_,_,pO⟩,⟨_,_,pN⟩,⟨_,_,pM⟩,⟨_,_,pL⟩,⟨_,_,pK⟩,⟨_,_,pJ⟩,⟨_,_,pI⟩,⟨_,_,pH⟩]] ++ T0) (ne := N0e) (df := D0e) (F := 100000) (d := 60) (cs := []) aH (by kernel_rfl) trivial
end Go.Proofs.YtgpedhfdniigoaaGreatDoor
