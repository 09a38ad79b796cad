/- Part 40 of the proof. -/
import Derived.Test.YtgpedhfdniigoaaGreatDoorP39
set_option linter.all false
namespace Go.Proofs.YtgpedhfdniigoaaGreatDoor
set_option maxRecDepth 100000
open Go.RowKit Go.V
variable {g : Gv}
def aN : LD := [[.s (S [112,114,105,99,101,115]),.sl 1 [[.s (S [99,111,100,101])],[.s (S [112,114,105,99,101])],[.s (S [110,97,109,101])]],.sl 1 [[.sl 7 [[.i 1,.s (S [65]),.i 0,.i 0,.i 0,nlD,nlD],[.i 2,.s (S []),.i 25,.i 1,.i 0,nlD,nlD],[.i 1,.s (S [97,112,112,108,101]),.i 0,.i 0,.i 0,nlD,nlD]]],[.sl 7 [[.i 1,.s (S [66]),.i 0,.i 0,.i 0,nlD,nlD],[.i 2,.s (S []),.i 3,.i 0,.i 0,nlD,nlD],[.i 1,.s (S [98,114,101,97,100]),.i 0,.i 0,.i 0,nlD,nlD]]]]]]
abbrev y27 : SV := .tup [(false,[.d (nlD)]),(false,[cI 1]),(false,[cI 0])]
theorem ty0_0 : V.Spec Tryz.prog (Gl g) 120 [.c (cS (S [99,111,108])),.c (cS (S [97])),.c (cM 3 aN),.c (cM 2 [[.s (S [97]),.i 1],[.s (S [98]),.i 1]])] [] (y27) [] :=
 aF nFQ nFQ (T := [] ++ T0) (ne := N0e) (df := D0e) (F := 100000) (d := 60) (cs := []) aH (by kernel_rfl) trivial
theorem ty0_1 : V.Spec Tryz.prog (Gl g) 120 [.c (cS (S [99,111,108])),.c (cS (S [98])),.c (cM 3 aN),.c (cM 2 [[.s (S [97]),.i 1],[.s (S [98]),.i 1]])] [] (y27) [] :=
 aF nFQ nFQ (T := [] ++ T0) (ne := N0e) (df := D0e) (F := 100000) (d := 60) (cs := []) aH (by kernel_rfl) trivial
abbrev y28 (a0 : LD) : SV := .tup [(false,[cM 1 a0]),(false,[cI 1]),(false,[cI 0])]
theorem ty0_2 : V.Spec Tryz.prog (Gl g) 120 [.c (cS (S [99,111,110,99,97,116])),.c (cS (S [])),.c (cM 3 aN),.c (cM 2 [[.s (S [97]),.i 1],[.s (S [98]),.i 1]])] [] (y28 [[.i 1],[.i 1]]) [] :=
 aF nFQ nFQ (T := [] ++ T0) (ne := N0e) (df := D0e) (F := 100000) (d := 60) (cs := []) aH (by kernel_rfl) trivial
theorem ty0_3 : V.Spec Tryz.prog (Gl g) 120 [.c (cS (S [117,112,112,101,114])),.c (cS (S [])),.c (cM 3 aN),.c (cM 2 [[.s (S [97]),.i 1],[.s (S [98]),.i 1]])] [] (y28 [[.i 1]]) [] :=
 aF nFQ nFQ (T := [] ++ T0) (ne := N0e) (df := D0e) (F := 100000) (d := 60) (cs := []) aH (by kernel_rfl) trivial
theorem ty0_5 : V.Spec Tryz.prog (Gl g) 120 [.c (cS (S [116,101,120,116])),.c (cS (S [45])),.c (cM 3 aN),.c (cM 2 [[.s (S [97]),.i 1],[.s (S [98]),.i 1]])] [] (y27) [] :=
 aF nFQ nFQ (T := [] ++ T0) (ne := N0e) (df := D0e) (F := 100000) (d := 60) (cs := []) aH (by kernel_rfl) trivial
theorem ty0_6 : V.Spec Tryz.prog (Gl g) 120 [.c (cS (S [101,120,116,114,97,99,116])),.c (cS (S [92,100,43,35,49])),.c (cM 3 aN),.c (cM 2 [[.s (S [97]),.i 1],[.s (S [98]),.i 1]])] [] (y28 [[.i 1]]) [] :=
 aF nFQ nFQ (T := [] ++ T0) (ne := N0e) (df := D0e) (F := 100000) (d := 60) (cs := []) aH (by kernel_rfl) trivial
abbrev y29 : SV := .tup [(false,[.d (nlD)]),(false,[cI 2]),(false,[cI 0])]
theorem ty1_0 : V.Spec Tryz.prog (Gl g) 120 [.c (cS (S [99,111,108])),.c (cS (S [110])),.c (cM 3 aN),.c (cM 2 [[.s (S [110]),.i 2],[.s (S [109]),.i 2]])] [] (y29) [] :=
 aF nFQ nFQ (T := [] ++ T0) (ne := N0e) (df := D0e) (F := 100000) (d := 60) (cs := []) aH (by kernel_rfl) trivial
theorem ty1_1 : V.Spec Tryz.prog (Gl g) 120 [.c (cS (S [99,111,108])),.c (cS (S [109])),.c (cM 3 aN),.c (cM 2 [[.s (S [110]),.i 2],[.s (S [109]),.i 2]])] [] (y29) [] :=
 aF nFQ nFQ (T := [] ++ T0) (ne := N0e) (df := D0e) (F := 100000) (d := 60) (cs := []) aH (by kernel_rfl) trivial
abbrev y30 (a0 : LD) : SV := .tup [(false,[cM 1 a0]),(false,[cI 2]),(false,[cI 0])]
theorem ty1_2 : V.Spec Tryz.prog (Gl g) 120 [.c (cS (S [97,100,100])),.c (cS (S [])),.c (cM 3 aN),.c (cM 2 [[.s (S [110]),.i 2],[.s (S [109]),.i 2]])] [] (y30 [[.i 2],[.i 2]]) [] :=
 aF nFQ nFQ (T := [] ++ T0) (ne := N0e) (df := D0e) (F := 100000) (d := 60) (cs := []) aH (by kernel_rfl) trivial
theorem ty1_3 : V.Spec Tryz.prog (Gl g) 120 [.c (cS (S [109,117,108])),.c (cS (S [])),.c (cM 3 aN),.c (cM 2 [[.s (S [110]),.i 2],[.s (S [109]),.i 2]])] [] (y30 [[.i 2],[.i 2]]) [] :=
 aF nFQ nFQ (T := [] ++ T0) (ne := N0e) (df := D0e) (F := 100000) (d := 60) (cs := []) aH (by kernel_rfl) trivial
theorem ty1_4 : V.Spec Tryz.prog (Gl g) 120 [.c (cS (S [110,117,109,98,101,114])),.c (cS (S [50])),.c (cM 3 aN),.c (cM 2 [[.s (S [110]),.i 2],[.s (S [109]),.i 2]])] [] (y29) [] :=
 aF nFQ nFQ (T := [] ++ T0) (ne := N0e) (df := D0e) (F := 100000) (d := 60) (cs := []) aH (by kernel_rfl) trivial
theorem ty1_6 : V.Spec Tryz.prog (Gl g) 120 [.c (cS (S [114,111,117,110,100])),.c (cS (S [49])),.c (cM 3 aN),.c (cM 2 [[.s (S [110]),.i 2],[.s (S [109]),.i 2]])] [] (y30 [[.i 2]]) [] :=
 aF nFQ nFQ (T := [] ++ T0) (ne := N0e) (df := D0e) (F := 100000) (d := 60) (cs := []) aH (by kernel_rfl) trivial
theorem ty2_0 : V.Spec Tryz.prog (Gl g) 120 [.c (cS (S [99,111,108])),.c (cS (S [100])),.c (cM 3 aN),.c (cM 2 [[.s (S [100]),.i 3],[.s (S [101]),.i 3],[.s (S [110]),.i 2]])] [] (.tup [(false,[.d (nlD)]),(false,[cI 3]),(false,[cI 0])]) [] :=
 aF nFQ nFQ (T := [] ++ T0) (ne := N0e) (df := D0e) (F := 100000) (d := 60) (cs := []) aH (by kernel_rfl) trivial
theorem ty2_1 : V.Spec Tryz.prog (Gl g) 120 [.c (cS (S [100,97,121,115])),.c (cS (S [])),.c (cM 3 aN),.c (cM 2 [[.s (S [100]),.i 3],[.s (S [101]),.i 3],[.s (S [110]),.i 2]])] [] (.tup [(false,[cM 1 [[.i 3],[.i 2]]]),(false,[cI 3]),(false,[cI 0])]) [] :=
 aF nFQ nFQ (T := [] ++ T0) (ne := N0e) (df := D0e) (F := 100000) (d := 60) (cs := []) aH (by kernel_rfl) trivial
theorem ty2_2 : V.Spec Tryz.prog (Gl g) 120 [.c (cS (S [99,111,108])),.c (cS (S [110])),.c (cM 3 aN),.c (cM 2 [[.s (S [100]),.i 3],[.s (S [101]),.i 3],[.s (S [110]),.i 2]])] [] (y29) [] :=
 aF nFQ nFQ (T := [] ++ T0) (ne := N0e) (df := D0e) (F := 100000) (d := 60) (cs := []) aH (by kernel_rfl) trivial
theorem ty2_3 : V.Spec Tryz.prog (Gl g) 120 [.c (cS (S [110,117,109,98,101,114])),.c (cS (S [55])),.c (cM 3 aN),.c (cM 2 [[.s (S [100]),.i 3],[.s (S [101]),.i 3],[.s (S [110]),.i 2]])] [] (y29) [] :=
 aF nFQ nFQ (T := [] ++ T0) (ne := N0e) (df := D0e) (F := 100000) (d := 60) (cs := []) aH (by kernel_rfl) trivial
theorem ty2_4 : V.Spec Tryz.prog (Gl g) 120 [.c (cS (S [98,101,116,119,101,101,110])),.c (cS (S [])),.c (cM 3 aN),.c (cM 2 [[.s (S [100]),.i 3],[.s (S [101]),.i 3],[.s (S [110]),.i 2]])] [] (y30 [[.i 3],[.i 3]]) [] :=
 aF nFQ nFQ (T := [] ++ T0) (ne := N0e) (df := D0e) (F := 100000) (d := 60) (cs := []) aH (by kernel_rfl) trivial
theorem ty2_6 : V.Spec Tryz.prog (Gl g) 120 [.c (cS (S [99,111,108])),.c (cS (S [101])),.c (cM 3 aN),.c (cM 2 [[.s (S [100]),.i 3],[.s (S [101]),.i 3],[.s (S [110]),.i 2]])] [] (.tup [(false,[.d (nlD)]),(false,[cI 3]),(false,[cI 0])]) [] :=
 aF nFQ nFQ (T := [] ++ T0) (ne := N0e) (df := D0e) (F := 100000) (d := 60) (cs := []) aH (by kernel_rfl) trivial
theorem ty3_0 : V.Spec Tryz.prog (Gl g) 120 [.c (cS (S [108,111,111,107,117,112])),.c (cS (S [112,114,105,99,101,115,46,99,111,100,101,46,112,114,105,99,101,58,110,117,109,98,101,114])),.c (cM 3 aN),.c (cM 2 [[.s (S [99,111,100,101]),.i 1],[.s (S [110]),.i 2]])] [] (y30 [[.i 1]]) [] :=
 aF nFQ nFQ (T := [] ++ T0) (ne := N0e) (df := D0e) (F := 100000) (d := 60) (cs := []) aH (by kernel_rfl) trivial
theorem ty3_1 : V.Spec Tryz.prog (Gl g) 120 [.c (cS (S [99,111,108])),.c (cS (S [110])),.c (cM 3 aN),.c (cM 2 [[.s (S [99,111,100,101]),.i 1],[.s (S [110]),.i 2]])] [] (y29) [] :=
 aF nFQ nFQ (T := [] ++ T0) (ne := N0e) (df := D0e) (F := 100000) (d := 60) (cs := []) aH (by kernel_rfl) trivial
theorem ty3_2 : V.Spec Tryz.prog (Gl g) 120 [.c (cS (S [109,117,108])),.c (cS (S [])),.c (cM 3 aN),.c (cM 2 [[.s (S [99,111,100,101]),.i 1],[.s (S [110]),.i 2]])] [] (y30 [[.i 2],[.i 2]]) [] :=
 aF nFQ nFQ (T := [] ++ T0) (ne := N0e) (df := D0e) (F := 100000) (d := 60) (cs := []) aH (by kernel_rfl) trivial
theorem ty3_3 : V.Spec Tryz.prog (Gl g) 120 [.c (cS (S [99,111,108])),.c (cS (S [99,111,100,101])),.c (cM 3 aN),.c (cM 2 [[.s (S [99,111,100,101]),.i 1],[.s (S [110]),.i 2]])] [] (y27) [] :=
 aF nFQ nFQ (T := [] ++ T0) (ne := N0e) (df := D0e) (F := 100000) (d := 60) (cs := []) aH (by kernel_rfl) trivial
theorem ty3_4 : V.Spec Tryz.prog (Gl g) 120 [.c (cS (S [117,112,112,101,114])),.c (cS (S [])),.c (cM 3 aN),.c (cM 2 [[.s (S [99,111,100,101]),.i 1],[.s (S [110]),.i 2]])] [] (y28 [[.i 1]]) [] :=
 aF nFQ nFQ (T := [] ++ T0) (ne := N0e) (df := D0e) (F := 100000) (d := 60) (cs := []) aH (by kernel_rfl) trivial
theorem ty3_5 : V.Spec Tryz.prog (Gl g) 120 [.c (cS (S [116,101,120,116])),.c (cS (S [65])),.c (cM 3 aN),.c (cM 2 [[.s (S [99,111,100,101]),.i 1],[.s (S [110]),.i 2]])] [] (y27) [] :=
 aF nFQ nFQ (T := [] ++ T0) (ne := N0e) (df := D0e) (F := 100000) (d := 60) (cs := []) aH (by kernel_rfl) trivial
theorem ty4_0 : V.Spec Tryz.prog (Gl g) 120 [.c (cS (S [99,111,108])),.c (cS (S [115])),.c (cM 3 aN),.c (cM 2 [[.s (S [115]),.i 1],[.s (S [110]),.i 2]])] [] (y27) [] :=
 aF nFQ nFQ (T := [] ++ T0) (ne := N0e) (df := D0e) (F := 100000) (d := 60) (cs := []) aH (by kernel_rfl) trivial
theorem ty4_1 : V.Spec Tryz.prog (Gl g) 120 [.c (cS (S [116,101,120,116])),.c (cS (S [108,111,119])),.c (cM 3 aN),.c (cM 2 [[.s (S [115]),.i 1],[.s (S [110]),.i 2]])] [] (y27) [] :=
 aF nFQ nFQ (T := [] ++ T0) (ne := N0e) (df := D0e) (F := 100000) (d := 60) (cs := []) aH (by kernel_rfl) trivial
theorem ty4_2 : V.Spec Tryz.prog (Gl g) 120 [.c (cS (S [105,102])),.c (cS (S [116,101,120,116])),.c (cM 3 aN),.c (cM 2 [[.s (S [115]),.i 1],[.s (S [110]),.i 2]])] [] (y28 [[.i 4],[.i 1],[.i 1]]) [] :=
 aF nFQ nFQ (T := [] ++ T0) (ne := N0e) (df := D0e) (F := 100000) (d := 60) (cs := []) aH (by kernel_rfl) trivial
theorem ty4_3 : V.Spec Tryz.prog (Gl g) 120 [.c (cS (S [108,101,115,115])),.c (cS (S [])),.c (cM 3 aN),.c (cM 2 [[.s (S [115]),.i 1],[.s (S [110]),.i 2]])] [] (.tup [(false,[cM 1 [[.i 2],[.i 2]]]),(false,[cI 4]),(false,[cI 0])]) [] :=
 aF nFQ nFQ (T := [] ++ T0) (ne := N0e) (df := D0e) (F := 100000) (d := 60) (cs := []) aH (by kernel_rfl) trivial
theorem ty4_4 : V.Spec Tryz.prog (Gl g) 120 [.c (cS (S [109,97,116,99,104])),.c (cS (S [92,117,43])),.c (cM 3 aN),.c (cM 2 [[.s (S [115]),.i 1],[.s (S [110]),.i 2]])] [] (.tup [(false,[cM 1 [[.i 1]]]),(false,[cI 4]),(false,[cI 0])]) [] :=
 aF nFQ nFQ (T := [] ++ T0) (ne := N0e) (df := D0e) (F := 100000) (d := 60) (cs := []) aH (by kernel_rfl) trivial
theorem ty4_5 : V.Spec Tryz.prog (Gl g) 120 [.c (cS (S [99,111,108])),.c (cS (S [110])),.c (cM 3 aN),.c (cM 2 [[.s (S [115]),.i 1],[.s (S [110]),.i 2]])] [] (y29) [] :=
 aF nFQ nFQ (T := [] ++ T0) (ne := N0e) (df := D0e) (F := 100000) (d := 60) (cs := []) aH (by kernel_rfl) trivial
theorem ty4_6 : V.Spec Tryz.prog (Gl g) 120 [.c (cS (S [110,117,109,98,101,114])),.c (cS (S [49,48])),.c (cM 3 aN),.c (cM 2 [[.s (S [115]),.i 1],[.s (S [110]),.i 2]])] [] (y29) [] :=
 aF nFQ nFQ (T := [] ++ T0) (ne := N0e) (df := D0e) (F := 100000) (d := 60) (cs := []) aH (by kernel_rfl) trivial
theorem ty4_8 : V.Spec Tryz.prog (Gl g) 120 [.c (cS (S [116,101,120,116])),.c (cS (S [104,105,103,104])),.c (cM 3 aN),.c (cM 2 [[.s (S [115]),.i 1],[.s (S [110]),.i 2]])] [] (y27) [] :=
 aF nFQ nFQ (T := [] ++ T0) (ne := N0e) (df := D0e) (F := 100000) (d := 60) (cs := []) aH (by kernel_rfl) trivial
theorem ty5_0 : V.Spec Tryz.prog (Gl g) 120 [.c (cS (S [115,117,109])),.c (cS (S [97,109,111,117,110,116,62,61,48])),.c (cM 3 aN),.c (cM 2 [[.s (S [105,116,101,109,115]),.i 5],[.s (S [107]),.i 1]])] [] (y30 [[.i 5]]) [] :=
 aF nFQ nFQ (T := [] ++ T0) (ne := N0e) (df := D0e) (F := 100000) (d := 60) (cs := []) aH (by kernel_rfl) trivial
theorem ty5_1 : V.Spec Tryz.prog (Gl g) 120 [.c (cS (S [99,111,117,110,116])),.c (cS (S [])),.c (cM 3 aN),.c (cM 2 [[.s (S [105,116,101,109,115]),.i 5],[.s (S [107]),.i 1]])] [] (y30 [[.i 5]]) [] :=
 aF nFQ nFQ (T := [] ++ T0) (ne := N0e) (df := D0e) (F := 100000) (d := 60) (cs := []) aH (by kernel_rfl) trivial
theorem ty5_2 : V.Spec Tryz.prog (Gl g) 120 [.c (cS (S [97,100,100])),.c (cS (S [])),.c (cM 3 aN),.c (cM 2 [[.s (S [105,116,101,109,115]),.i 5],[.s (S [107]),.i 1]])] [] (y30 [[.i 2],[.i 2]]) [] :=
 aF nFQ nFQ (T := [] ++ T0) (ne := N0e) (df := D0e) (F := 100000) (d := 60) (cs := []) aH (by kernel_rfl) trivial
theorem ty5_3 : V.Spec Tryz.prog (Gl g) 120 [.c (cS (S [99,111,108])),.c (cS (S [105,116,101,109,115])),.c (cM 3 aN),.c (cM 2 [[.s (S [105,116,101,109,115]),.i 5],[.s (S [107]),.i 1]])] [] (.tup [(false,[.d (nlD)]),(false,[cI 5]),(false,[cI 0])]) [] :=
 aF nFQ nFQ (T := [] ++ T0) (ne := N0e) (df := D0e) (F := 100000) (d := 60) (cs := []) aH (by kernel_rfl) trivial
theorem ty5_4 : V.Spec Tryz.prog (Gl g) 120 [.c (cS (S [119,104,101,114,101])),.c (cS (S [107,105,110,100])),.c (cM 3 aN),.c (cM 2 [[.s (S [105,116,101,109,115]),.i 5],[.s (S [107]),.i 1]])] [] (.tup [(false,[cM 1 [[.i 5],[.i 1]]]),(false,[cI 5]),(false,[cI 0])]) [] :=
 aF nFQ nFQ (T := [] ++ T0) (ne := N0e) (df := D0e) (F := 100000) (d := 60) (cs := []) aH (by kernel_rfl) trivial
theorem ty5_5 : V.Spec Tryz.prog (Gl g) 120 [.c (cS (S [99,111,108])),.c (cS (S [107])),.c (cM 3 aN),.c (cM 2 [[.s (S [105,116,101,109,115]),.i 5],[.s (S [107]),.i 1]])] [] (y27) [] :=
 aF nFQ nFQ (T := [] ++ T0) (ne := N0e) (df := D0e) (F := 100000) (d := 60) (cs := []) aH (by kernel_rfl) trivial
theorem ty5_6 : V.Spec Tryz.prog (Gl g) 120 [.c (cS (S [116,101,120,116])),.c (cS (S [97])),.c (cM 3 aN),.c (cM 2 [[.s (S [105,116,101,109,115]),.i 5],[.s (S [107]),.i 1]])] [] (y27) [] :=
 aF nFQ nFQ (T := [] ++ T0) (ne := N0e) (df := D0e) (F := 100000) (d := 60) (cs := []) aH (by kernel_rfl) trivial
end Go.Proofs.YtgpedhfdniigoaaGreatDoor
