/- Part 48 of the proof. -/
import Derived.Test.YtgpedhfdniigoaaGreatDoorP47
set_option linter.all false
namespace Go.Proofs.YtgpedhfdniigoaaGreatDoor
set_option maxRecDepth 100000
open Go.RowKit Go.V
variable {g : Gv}
def aJN : List C := [cS (S []),cI 0,.d nlD,.d nlD,.d nlD,cI 0]
theorem bad1 : V.Spec Tryz.prog (Gl g) 16 [.c (cS (S [103,114,97,109,109,97,114,32,103,32,49,10,115,121,109,98,111,108,32,84,32,116,101,120,116,32,51,10,114,117,108,101,32,84,32,99,111,108,32,39,97,39,10]))] [] (.tup [(true,aJN),(false,[cI 43]),(false,[cI 12])]) [] :=
 aEO nFQ nFQ [1,1,1,1,1,1,0,1] (T := T0) (ne := N0e) (df := D0e) (F := 100000) (d := 60) (cs := []) aH (by kernel_rfl) trivial
theorem fail1 : V.Spec Tryz.prog (Gl g) 30 [.c (cS (S [103,114,97,109,109,97,114,32,103,32,49,10,115,121,109,98,111,108,32,84,32,116,101,120,116,32,51,10,114,117,108,101,32,84,32,99,111,108,32,39,97,39,10])),.c (cI 43),.c (cI 12)] [] (.c (cB true)) [] :=
 aF nFQ nFQ (T := cQ 16 [⟨_,_,bad1⟩] :: T0) (ne := N0e) (df := D0e) (F := 100000) (d := 60) (cs := []) aH (by kernel_rfl) trivial
theorem bad2 : V.Spec Tryz.prog (Gl g) 16 [.c (cS (S [103,114,97,109,109,97,114,32,103,32,49,10,115,121,109,98,111,108,32,84,32,116,101,120,116,32,49,48,10]))] [] (.tup [(true,aJN),(false,[cI 12]),(false,[cI 3])]) [] :=
 aEO nFQ nFQ [1,1,1,1,1,0,1,1,1,1,1,0,1,1,0,1] (T := T0) (ne := N0e) (df := D0e) (F := 100000) (d := 60) (cs := []) aH (by kernel_rfl) trivial
theorem fail2 : V.Spec Tryz.prog (Gl g) 30 [.c (cS (S [103,114,97,109,109,97,114,32,103,32,49,10,115,121,109,98,111,108,32,84,32,116,101,120,116,32,49,48,10])),.c (cI 12),.c (cI 3)] [] (.c (cB true)) [] :=
 aF nFQ nFQ (T := cQ 16 [⟨_,_,bad2⟩] :: T0) (ne := N0e) (df := D0e) (F := 100000) (d := 60) (cs := []) aH (by kernel_rfl) trivial
theorem bad3 : V.Spec Tryz.prog (Gl g) 16 [.c (cS (S [103,114,97,109,109,97,114,32,103,32,49,10,115,121,109,98,111,108,32,84,32,116,101,120,116,32,51,10,114,117,108,101,32,85,32,99,111,108,32,39,97,39,10]))] [] (.tup [(true,aJN),(false,[cI 28]),(false,[cI 13])]) [] :=
 aEO nFQ nFQ [1,1,1,1,1,0,2,1,1,1,1,0,1,1,1,1,1,1,1,0,1,0,1,1,0,1,1,0,1] (T := T0) (ne := N0e) (df := D0e) (F := 100000) (d := 60) (cs := []) aH (by kernel_rfl) trivial
theorem fail3 : V.Spec Tryz.prog (Gl g) 30 [.c (cS (S [103,114,97,109,109,97,114,32,103,32,49,10,115,121,109,98,111,108,32,84,32,116,101,120,116,32,51,10,114,117,108,101,32,85,32,99,111,108,32,39,97,39,10])),.c (cI 28),.c (cI 13)] [] (.c (cB true)) [] :=
 aF nFQ nFQ (T := cQ 16 [⟨_,_,bad3⟩] :: T0) (ne := N0e) (df := D0e) (F := 100000) (d := 60) (cs := []) aH (by kernel_rfl) trivial
theorem aJY : V.Spec Tryz.prog (Gl g) 10 [] [] (.c (cB true)) [] :=
 aF nFQ nFQ (T := cQ 16 [⟨_,_,parse1⟩] :: cQ 13 [⟨_,_,print1⟩] :: cQ 20 [⟨_,_,aHP⟩] :: cQ 27 [⟨_,_,check1⟩,⟨_,_,check2⟩,⟨_,_,check3⟩] :: cQ 30 [⟨_,_,fail1⟩,⟨_,_,fail2⟩,⟨_,_,fail3⟩] :: T0) (ne := N0e) (df := D0e) (F := 100000) (d := 60) (cs := []) aH (by kernel_rfl) trivial
end Go.Proofs.YtgpedhfdniigoaaGreatDoor
