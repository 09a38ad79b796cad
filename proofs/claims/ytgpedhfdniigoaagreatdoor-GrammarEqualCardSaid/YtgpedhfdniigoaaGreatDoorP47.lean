/- Part 47 of the proof. -/
import Derived.Test.YtgpedhfdniigoaaGreatDoorP39
set_option linter.all false
namespace Go.Proofs.YtgpedhfdniigoaaGreatDoor
set_option maxRecDepth 100000
open Go.RowKit Go.V
variable {g : Gv}
theorem parse1 : V.Spec Tryz.prog (Gl g) 16 [.c (cS (S [103,114,97,109,109,97,114,32,103,32,49,10,99,111,108,117,109,110,32,97,32,116,101,120,116,10,115,121,109,98,111,108,32,84,32,116,101,120,116,32,51,10,114,117,108,101,32,84,32,99,111,108,32,39,97,39,10,114,117,108,101,32,84,32,99,111,110,99,97,116,32,39,39,32,84,32,84,10,115,116,97,114,116,32,84,10]))] [] (.tup [(true,[cS (S [103]),cI 1,cM 2 [[.s (S [97]),.i 1]],cM 3 [[.s (S [84]),.i 1,.i 3]],cM 4 [[.i 0,.s (S [99,111,108]),.s (S [97]),nlD],[.i 0,.s (S [99,111,110,99,97,116]),.s (S []),.sl 1 [[.i 0],[.i 0]]]],cI 0]),(false,[cI 0]),(false,[cI 0])]) [] :=
 aF nFQ (fun k => mkL [1046,1150,1505,1878] [] k) (T := [] ++ T0) (ne := N0e) (df := D0e) (F := 100000) (d := 60) (cs := []) aH (by kernel_rfl) trivial
abbrev y51 (a0 : LD) (a1 : LD) (a2 : LD) : SV := .agg [cS (S [103]),cI 1,cM 2 a0,cM 3 a1,cM 4 a2,cI 0]
theorem jN : V.Spec Tryz.prog (Gl g) 36 [y51 [[.s (S [97]),.i 1]] [[.s (S [84]),.i 1,.i 3]] [[.i 0,.s (S [99,111,108]),.s (S [97]),nlD],[.i 0,.s (S [99,111,110,99,97,116]),.s (S []),.sl 1 [[.i 0],[.i 0]]]]] [] (.c (cB true)) [] :=
 aF nFQ nFQ (T := [] ++ T0) (ne := N0e) (df := D0e) (F := 100000) (d := 60) (cs := []) aH (by kernel_rfl) trivial
theorem print1 : V.Spec Tryz.prog (Gl g) 13 [y51 [[.s (S [97]),.i 1]] [[.s (S [84]),.i 1,.i 3]] [[.i 0,.s (S [99,111,108]),.s (S [97]),nlD],[.i 0,.s (S [99,111,110,99,97,116]),.s (S []),.sl 1 [[.i 0],[.i 0]]]]] [] (.c (cS (S [103,114,97,109,109,97,114,32,103,32,49,10,99,111,108,117,109,110,32,97,32,116,101,120,116,10,115,121,109,98,111,108,32,84,32,116,101,120,116,32,51,10,114,117,108,101,32,84,32,99,111,108,32,39,97,39,10,114,117,108,101,32,84,32,99,111,110,99,97,116,32,39,39,32,84,32,84,10,115,116,97,114,116,32,84,10]))) [] :=
 aF nFQ (fun k => mkL [402,487] [] k) (T := [cQ 36 [⟨_,_,jN⟩]] ++ T0) (ne := N0e) (df := D0e) (F := 100000) (d := 60) (cs := []) aH (by kernel_rfl) trivial
theorem aHP : V.Spec Tryz.prog (Gl g) 20 [y51 [[.s (S [97]),.i 1]] [[.s (S [84]),.i 1,.i 3]] [[.i 0,.s (S [99,111,108]),.s (S [97]),nlD],[.i 0,.s (S [99,111,110,99,97,116]),.s (S []),.sl 1 [[.i 0],[.i 0]]]]] [] (.c (cM 1 [[.sl 1 [[.s (S [])],[.s (S [1])],[.s (S [])],[.s (S [1])]]]])) [] :=
 aF nFQ nFQ (T := [cQ 36 [⟨_,_,jN⟩]] ++ T0) (ne := N0e) (df := D0e) (F := 100000) (d := 60) (cs := []) aH (by kernel_rfl) trivial
theorem check1 : V.Spec Tryz.prog (Gl g) 27 [y51 [[.s (S [97]),.i 1]] [[.s (S [84]),.i 1,.i 3]] [[.i 0,.s (S [99,111,108]),.s (S [97]),nlD],[.i 0,.s (S [99,111,110,99,97,116]),.s (S []),.sl 1 [[.i 0],[.i 0]]]],.c (cM 3 [])] [] (.tup [(false,[cI 0]),(false,[cI 0])]) [] :=
 aF nFQ nFQ (T := [cQ 36 [⟨_,_,jN⟩],cQ 20 [⟨_,_,aHP⟩]] ++ T0) (ne := N0e) (df := D0e) (F := 100000) (d := 60) (cs := []) aH (by kernel_rfl) trivial
abbrev y52 (a0 : LD) (a1 : LD) : SV := .agg [cS (S [103]),cI 1,cM 2 [],cM 3 a0,cM 4 a1,cI 0]
theorem aBN : V.Spec Tryz.prog (Gl g) 36 [y52 [[.s (S [84]),.i 1,.i 3]] [[.i 0,.s (S [99,111,108]),.s (S [97]),nlD],[.i 0,.s (S [99,111,110,99,97,116]),.s (S []),.sl 1 [[.i 0],[.i 0]]]]] [] (.c (cB true)) [] :=
 aF nFQ nFQ (T := [] ++ T0) (ne := N0e) (df := D0e) (F := 100000) (d := 60) (cs := []) aH (by kernel_rfl) trivial
theorem check2 : V.Spec Tryz.prog (Gl g) 27 [y52 [[.s (S [84]),.i 1,.i 3]] [[.i 0,.s (S [99,111,108]),.s (S [97]),nlD],[.i 0,.s (S [99,111,110,99,97,116]),.s (S []),.sl 1 [[.i 0],[.i 0]]]],.c (cM 3 [])] [] (.tup [(false,[cI 0]),(false,[cI 13])]) [] :=
 aF nFQ nFQ (T := [cQ 36 [⟨_,_,aBN⟩]] ++ T0) (ne := N0e) (df := D0e) (F := 100000) (d := 60) (cs := []) aH (by kernel_rfl) trivial
theorem oR : V.Spec Tryz.prog (Gl g) 36 [y52 [[.s (S [84]),.i 1,.i 3]] [[.i 0,.s (S [99,111,110,99,97,116]),.s (S []),.sl 1 [[.i 0],[.i 0]]]]] [] (.c (cB true)) [] :=
 aF nFQ nFQ (T := [] ++ T0) (ne := N0e) (df := D0e) (F := 100000) (d := 60) (cs := []) aH (by kernel_rfl) trivial
theorem wQ : V.Spec Tryz.prog (Gl g) 20 [y52 [[.s (S [84]),.i 1,.i 3]] [[.i 0,.s (S [99,111,110,99,97,116]),.s (S []),.sl 1 [[.i 0],[.i 0]]]]] [] (.c (cM 1 [[.sl 1 [[.s (S [])],[.s (S [])],[.s (S [])],[.s (S [])]]]])) [] :=
 specXD nFQ nFQ (T := [cQ 36 [⟨_,_,oR⟩]] ++ T0) (ne := N0e) (df := D0e) (F := 100000) (d := 60) (cs := []) aH (by kernel_rfl) trivial
theorem check3 : V.Spec Tryz.prog (Gl g) 27 [y52 [[.s (S [84]),.i 1,.i 3]] [[.i 0,.s (S [99,111,110,99,97,116]),.s (S []),.sl 1 [[.i 0],[.i 0]]]],.c (cM 3 [])] [] (.tup [(false,[cI 0]),(false,[cI 16])]) [] :=
 aF nFQ nFQ (T := [cQ 36 [⟨_,_,oR⟩],cQ 20 [⟨_,_,wQ⟩]] ++ T0) (ne := N0e) (df := D0e) (F := 100000) (d := 60) (cs := []) aH (by kernel_rfl) trivial
end Go.Proofs.YtgpedhfdniigoaaGreatDoor
