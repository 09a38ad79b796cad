/- Part 38 of the proof. -/
import Derived.Test.YtclaplngjmgnoaaGreatDoorP36
set_option linter.all false
namespace Go.Proofs.YtclaplngjmgnoaaGreatDoor
set_option maxRecDepth 100000
open Go.RowKit Go.V
variable {g : Gv}
theorem rS : SX g 279 [.c (cS (S [116,101,120,116])),.c (cS (S [45]))] (y39) :=
 kS1 []
theorem aBP : SX g 200 [.c (cS (S [116,101,120,116])),.c (cS (S [45])),.c (cM 3 fZ),.c (cM 2 [[.s (S [97]),.i 1],[.s (S [98]),.i 1]])] (y40) :=
 kS1 [aR 279 [⟨_,_,rS⟩]]
theorem aQA (row : SV) : SX g 287 (apI [116,101,120,116] [45] (.c (.d (nlD))) row) (oN (S [45])) :=
 kS1 [aR 200 [⟨_,_,aBP⟩],aR 279 [⟨_,_,rS⟩]]
theorem cD : SX g 279 [.c (cS (S [117,112,112,101,114])),.c (cS (S []))] (y39) :=
 kS1 []
theorem bQ : SX g 200 [.c (cS (S [117,112,112,101,114])),.c (cS (S [])),.c (cM 3 fZ),.c (cM 2 [[.s (S [97]),.i 1],[.s (S [98]),.i 1]])] (y41 [[.i 1]]) :=
 kS1 [aR 279 [⟨_,_,cD⟩]]
theorem apUp0 (row : SV) : SX g 287 (apI [117,112,112,101,114] [] (.c (cM 7 [[.i 1,.s (S [65]),.i 0,.i 0,.i 0,.sl 1 [],.sl 1 []]])) row) (oN (S [65])) :=
 kS1 [aR 200 [⟨_,_,bQ⟩],aR 279 [⟨_,_,cD⟩]]
theorem apUp1 (row : SV) : SX g 287 (apI [117,112,112,101,114] [] (.c (cM 7 [[.i 1,.s (S [66]),.i 0,.i 0,.i 0,.sl 1 [],.sl 1 []]])) row) (oN (S [66])) :=
 kS1 [aR 200 [⟨_,_,bQ⟩],aR 279 [⟨_,_,cD⟩]]
theorem apUp2 (row : SV) : SX g 287 (apI [117,112,112,101,114] [] (.c (cM 7 [[.i 1,.s (S [97]),.i 0,.i 0,.i 0,.sl 1 [],.sl 1 []]])) row) (oN (S [65])) :=
 kS1 [aR 200 [⟨_,_,bQ⟩],aR 279 [⟨_,_,cD⟩]]
theorem apUp3 (row : SV) : SX g 287 (apI [117,112,112,101,114] [] (.c (cM 7 [[.i 1,.s (S [97,49]),.i 0,.i 0,.i 0,.sl 1 [],.sl 1 []]])) row) (oN (S [65,49])) :=
 kS1 [aR 200 [⟨_,_,bQ⟩],aR 279 [⟨_,_,cD⟩]]
theorem apUp4 (row : SV) : SX g 287 (apI [117,112,112,101,114] [] (.c (cM 7 [[.i 1,.s (S [49,50,45,120]),.i 0,.i 0,.i 0,.sl 1 [],.sl 1 []]])) row) (oN (S [49,50,45,88])) :=
 kS1 [aR 200 [⟨_,_,bQ⟩],aR 279 [⟨_,_,cD⟩]]
theorem apUp5 (row : SV) : SX g 287 (apI [117,112,112,101,114] [] (.c (cM 7 [[.i 1,.s (S []),.i 0,.i 0,.i 0,.sl 1 [],.sl 1 []]])) row) (oN (S [])) :=
 kS1 [aR 200 [⟨_,_,bQ⟩],aR 279 [⟨_,_,cD⟩]]
theorem apUp6 (row : SV) : SX g 287 (apI [117,112,112,101,114] [] (.c (cM 7 [[.i 1,.s (S [72,73,71,72]),.i 0,.i 0,.i 0,.sl 1 [],.sl 1 []]])) row) (oN (S [72,73,71,72])) :=
 kS1 [aR 200 [⟨_,_,bQ⟩],aR 279 [⟨_,_,cD⟩]]
theorem apUp7 (row : SV) : SX g 287 (apI [117,112,112,101,114] [] (.c (cM 7 [[.i 1,.s (S [88,49]),.i 0,.i 0,.i 0,.sl 1 [],.sl 1 []]])) row) (oN (S [88,49])) :=
 kS1 [aR 200 [⟨_,_,bQ⟩],aR 279 [⟨_,_,cD⟩]]
theorem apUp8 (row : SV) : SX g 287 (apI [117,112,112,101,114] [] (.c (cM 7 [[.i 1,.s (S [45]),.i 0,.i 0,.i 0,.sl 1 [],.sl 1 []]])) row) (oN (S [45])) :=
 kS1 [aR 200 [⟨_,_,bQ⟩],aR 279 [⟨_,_,cD⟩]]
theorem apUp9 (row : SV) : SX g 287 (apI [117,112,112,101,114] [] (.c (cM 7 [[.i 1,.s (S [49]),.i 0,.i 0,.i 0,.sl 1 [],.sl 1 []]])) row) (oN (S [49])) :=
 kS1 [aR 200 [⟨_,_,bQ⟩],aR 279 [⟨_,_,cD⟩]]
theorem apUp10 (row : SV) : SX g 287 (apI [117,112,112,101,114] [] (.c (cM 7 [[.i 1,.s (S [49,50]),.i 0,.i 0,.i 0,.sl 1 [],.sl 1 []]])) row) (oN (S [49,50])) :=
 kS1 [aR 200 [⟨_,_,bQ⟩],aR 279 [⟨_,_,cD⟩]]
theorem apUpE16 (row : SV) : SX g 287 (apI [117,112,112,101,114] [] (.c (cM 7 [[.i 0,.s (S []),.i 0,.i 0,.i 16,.sl 1 [],.sl 1 []]])) row) (oE 16) :=
 kS1 [aR 200 [⟨_,_,bQ⟩]]
theorem apUpE18 (row : SV) : SX g 287 (apI [117,112,112,101,114] [] (.c (cM 7 [[.i 0,.s (S []),.i 0,.i 0,.i 18,.sl 1 [],.sl 1 []]])) row) (oE 18) :=
 kS1 [aR 200 [⟨_,_,bQ⟩]]
theorem c7 : SX g 279 [.c (cS (S [101,120,116,114,97,99,116])),.c (cS (S [92,100,43,35,49]))] (.tup [(true,[.d (nlD),cI 0,cI 1,cI 0,cI 0,cM 4 [[.i 1,.i 1,.i 200,.s (S [])]]]),(false,[cB true])]) :=
 kS1 []
theorem cH : SX g 200 [.c (cS (S [101,120,116,114,97,99,116])),.c (cS (S [92,100,43,35,49])),.c (cM 3 fZ),.c (cM 2 [[.s (S [97]),.i 1],[.s (S [98]),.i 1]])] (y41 [[.i 1]]) :=
 kS1 [aR 279 [⟨_,_,c7⟩]]
theorem apEx0 (row : SV) : SX g 287 (apI [101,120,116,114,97,99,116] [92,100,43,35,49] (.c (cM 7 [[.i 1,.s (S [65]),.i 0,.i 0,.i 0,.sl 1 [],.sl 1 []]])) row) (oE 18) :=
 kS1 [aR 200 [⟨_,_,cH⟩],aR 279 [⟨_,_,c7⟩]]
theorem apEx1 (row : SV) : SX g 287 (apI [101,120,116,114,97,99,116] [92,100,43,35,49] (.c (cM 7 [[.i 1,.s (S [66]),.i 0,.i 0,.i 0,.sl 1 [],.sl 1 []]])) row) (oE 18) :=
 kS1 [aR 200 [⟨_,_,cH⟩],aR 279 [⟨_,_,c7⟩]]
theorem apEx2 (row : SV) : SX g 287 (apI [101,120,116,114,97,99,116] [92,100,43,35,49] (.c (cM 7 [[.i 1,.s (S [97]),.i 0,.i 0,.i 0,.sl 1 [],.sl 1 []]])) row) (oE 18) :=
 kS1 [aR 200 [⟨_,_,cH⟩],aR 279 [⟨_,_,c7⟩]]
theorem apEx3 (row : SV) : SX g 287 (apI [101,120,116,114,97,99,116] [92,100,43,35,49] (.c (cM 7 [[.i 1,.s (S [97,49]),.i 0,.i 0,.i 0,.sl 1 [],.sl 1 []]])) row) (oN (S [49])) :=
 kS1 [aR 200 [⟨_,_,cH⟩],aR 279 [⟨_,_,c7⟩]]
theorem apEx4 (row : SV) : SX g 287 (apI [101,120,116,114,97,99,116] [92,100,43,35,49] (.c (cM 7 [[.i 1,.s (S [49,50,45,120]),.i 0,.i 0,.i 0,.sl 1 [],.sl 1 []]])) row) (oN (S [49,50])) :=
 kS1 [aR 200 [⟨_,_,cH⟩],aR 279 [⟨_,_,c7⟩]]
theorem apEx5 (row : SV) : SX g 287 (apI [101,120,116,114,97,99,116] [92,100,43,35,49] (.c (cM 7 [[.i 1,.s (S []),.i 0,.i 0,.i 0,.sl 1 [],.sl 1 []]])) row) (oE 18) :=
 kS1 [aR 200 [⟨_,_,cH⟩],aR 279 [⟨_,_,c7⟩]]
theorem apEx6 (row : SV) : SX g 287 (apI [101,120,116,114,97,99,116] [92,100,43,35,49] (.c (cM 7 [[.i 1,.s (S [72,73,71,72]),.i 0,.i 0,.i 0,.sl 1 [],.sl 1 []]])) row) (oE 18) :=
 kS1 [aR 200 [⟨_,_,cH⟩],aR 279 [⟨_,_,c7⟩]]
theorem apEx7 (row : SV) : SX g 287 (apI [101,120,116,114,97,99,116] [92,100,43,35,49] (.c (cM 7 [[.i 1,.s (S [88,49]),.i 0,.i 0,.i 0,.sl 1 [],.sl 1 []]])) row) (oN (S [49])) :=
 kS1 [aR 200 [⟨_,_,cH⟩],aR 279 [⟨_,_,c7⟩]]
theorem apEx8 (row : SV) : SX g 287 (apI [101,120,116,114,97,99,116] [92,100,43,35,49] (.c (cM 7 [[.i 1,.s (S [45]),.i 0,.i 0,.i 0,.sl 1 [],.sl 1 []]])) row) (oE 18) :=
 kS1 [aR 200 [⟨_,_,cH⟩],aR 279 [⟨_,_,c7⟩]]
theorem apExE16 (row : SV) : SX g 287 (apI [101,120,116,114,97,99,116] [92,100,43,35,49] (.c (cM 7 [[.i 0,.s (S []),.i 0,.i 0,.i 16,.sl 1 [],.sl 1 []]])) row) (oE 16) :=
 kS1 [aR 200 [⟨_,_,cH⟩]]
end Go.Proofs.YtclaplngjmgnoaaGreatDoor
