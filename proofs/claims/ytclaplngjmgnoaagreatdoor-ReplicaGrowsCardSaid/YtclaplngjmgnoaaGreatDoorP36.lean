/- Part 36 of the proof. -/
import Derived.Test.YtclaplngjmgnoaaGreatDoorP34
set_option linter.all false
namespace Go.Proofs.YtclaplngjmgnoaaGreatDoor
set_option maxRecDepth 100000
open Go.RowKit Go.V
variable {g : Gv}
theorem rK : SX g 279 [.c (cS (S [116,101,120,116])),.c (cS (S [45]))] (y16) :=
 kS1 []
theorem aBH : SX g 200 [.c (cS (S [116,101,120,116])),.c (cS (S [45])),.c (cM 3 fM),.c (cM 2 [[.s (S [97]),.i 1],[.s (S [98]),.i 1]])] (y17) :=
 kS1 [aL 279 [⟨_,_,rK⟩]]
theorem aP6 (row : SV) : SX g 287 (apI [116,101,120,116] [45] (.c (.d (nlD))) row) (oN (S [45])) :=
 kS1 [aL 200 [⟨_,_,aBH⟩],aL 279 [⟨_,_,rK⟩]]
theorem b9 : SX g 279 [.c (cS (S [117,112,112,101,114])),.c (cS (S []))] (y16) :=
 kS1 []
theorem bH : SX g 200 [.c (cS (S [117,112,112,101,114])),.c (cS (S [])),.c (cM 3 fM),.c (cM 2 [[.s (S [97]),.i 1],[.s (S [98]),.i 1]])] (y18 [[.i 1]]) :=
 kS1 [aL 279 [⟨_,_,b9⟩]]
theorem apUp0 (row : SV) : SX g 287 (apI [117,112,112,101,114] [] (.c (cM 7 [[.i 1,.s (S [65]),.i 0,.i 0,.i 0,.sl 1 [],.sl 1 []]])) row) (oN (S [65])) :=
 kS1 [aL 200 [⟨_,_,bH⟩],aL 279 [⟨_,_,b9⟩]]
theorem apUp1 (row : SV) : SX g 287 (apI [117,112,112,101,114] [] (.c (cM 7 [[.i 1,.s (S [66]),.i 0,.i 0,.i 0,.sl 1 [],.sl 1 []]])) row) (oN (S [66])) :=
 kS1 [aL 200 [⟨_,_,bH⟩],aL 279 [⟨_,_,b9⟩]]
theorem apUp2 (row : SV) : SX g 287 (apI [117,112,112,101,114] [] (.c (cM 7 [[.i 1,.s (S [97]),.i 0,.i 0,.i 0,.sl 1 [],.sl 1 []]])) row) (oN (S [65])) :=
 kS1 [aL 200 [⟨_,_,bH⟩],aL 279 [⟨_,_,b9⟩]]
theorem apUp3 (row : SV) : SX g 287 (apI [117,112,112,101,114] [] (.c (cM 7 [[.i 1,.s (S [97,49]),.i 0,.i 0,.i 0,.sl 1 [],.sl 1 []]])) row) (oN (S [65,49])) :=
 kS1 [aL 200 [⟨_,_,bH⟩],aL 279 [⟨_,_,b9⟩]]
theorem apUp4 (row : SV) : SX g 287 (apI [117,112,112,101,114] [] (.c (cM 7 [[.i 1,.s (S [49,50,45,120]),.i 0,.i 0,.i 0,.sl 1 [],.sl 1 []]])) row) (oN (S [49,50,45,88])) :=
 kS1 [aL 200 [⟨_,_,bH⟩],aL 279 [⟨_,_,b9⟩]]
theorem apUp5 (row : SV) : SX g 287 (apI [117,112,112,101,114] [] (.c (cM 7 [[.i 1,.s (S []),.i 0,.i 0,.i 0,.sl 1 [],.sl 1 []]])) row) (oN (S [])) :=
 kS1 [aL 200 [⟨_,_,bH⟩],aL 279 [⟨_,_,b9⟩]]
theorem apUp6 (row : SV) : SX g 287 (apI [117,112,112,101,114] [] (.c (cM 7 [[.i 1,.s (S [72,73,71,72]),.i 0,.i 0,.i 0,.sl 1 [],.sl 1 []]])) row) (oN (S [72,73,71,72])) :=
 kS1 [aL 200 [⟨_,_,bH⟩],aL 279 [⟨_,_,b9⟩]]
theorem apUp7 (row : SV) : SX g 287 (apI [117,112,112,101,114] [] (.c (cM 7 [[.i 1,.s (S [88,49]),.i 0,.i 0,.i 0,.sl 1 [],.sl 1 []]])) row) (oN (S [88,49])) :=
 kS1 [aL 200 [⟨_,_,bH⟩],aL 279 [⟨_,_,b9⟩]]
theorem apUp8 (row : SV) : SX g 287 (apI [117,112,112,101,114] [] (.c (cM 7 [[.i 1,.s (S [45]),.i 0,.i 0,.i 0,.sl 1 [],.sl 1 []]])) row) (oN (S [45])) :=
 kS1 [aL 200 [⟨_,_,bH⟩],aL 279 [⟨_,_,b9⟩]]
theorem apUp9 (row : SV) : SX g 287 (apI [117,112,112,101,114] [] (.c (cM 7 [[.i 1,.s (S [49]),.i 0,.i 0,.i 0,.sl 1 [],.sl 1 []]])) row) (oN (S [49])) :=
 kS1 [aL 200 [⟨_,_,bH⟩],aL 279 [⟨_,_,b9⟩]]
theorem apUp10 (row : SV) : SX g 287 (apI [117,112,112,101,114] [] (.c (cM 7 [[.i 1,.s (S [49,50]),.i 0,.i 0,.i 0,.sl 1 [],.sl 1 []]])) row) (oN (S [49,50])) :=
 kS1 [aL 200 [⟨_,_,bH⟩],aL 279 [⟨_,_,b9⟩]]
theorem apUpE16 (row : SV) : SX g 287 (apI [117,112,112,101,114] [] (.c (cM 7 [[.i 0,.s (S []),.i 0,.i 0,.i 16,.sl 1 [],.sl 1 []]])) row) (oE 16) :=
 kS1 [aL 200 [⟨_,_,bH⟩]]
theorem apUpE18 (row : SV) : SX g 287 (apI [117,112,112,101,114] [] (.c (cM 7 [[.i 0,.s (S []),.i 0,.i 0,.i 18,.sl 1 [],.sl 1 []]])) row) (oE 18) :=
 kS1 [aL 200 [⟨_,_,bH⟩]]
theorem cU : SX g 279 [.c (cS (S [101,120,116,114,97,99,116])),.c (cS (S [92,100,43,35,49]))] (.tup [(true,[.d (nlD),cI 0,cI 1,cI 0,cI 0,cM 4 [[.i 1,.i 1,.i 200,.s (S [])]]]),(false,[cB true])]) :=
 kS1 []
theorem cD : SX g 200 [.c (cS (S [101,120,116,114,97,99,116])),.c (cS (S [92,100,43,35,49])),.c (cM 3 fM),.c (cM 2 [[.s (S [97]),.i 1],[.s (S [98]),.i 1]])] (y18 [[.i 1]]) :=
 kS1 [aL 279 [⟨_,_,cU⟩]]
theorem apEx0 (row : SV) : SX g 287 (apI [101,120,116,114,97,99,116] [92,100,43,35,49] (.c (cM 7 [[.i 1,.s (S [65]),.i 0,.i 0,.i 0,.sl 1 [],.sl 1 []]])) row) (oE 18) :=
 kS1 [aL 200 [⟨_,_,cD⟩],aL 279 [⟨_,_,cU⟩]]
theorem apEx1 (row : SV) : SX g 287 (apI [101,120,116,114,97,99,116] [92,100,43,35,49] (.c (cM 7 [[.i 1,.s (S [66]),.i 0,.i 0,.i 0,.sl 1 [],.sl 1 []]])) row) (oE 18) :=
 kS1 [aL 200 [⟨_,_,cD⟩],aL 279 [⟨_,_,cU⟩]]
theorem apEx2 (row : SV) : SX g 287 (apI [101,120,116,114,97,99,116] [92,100,43,35,49] (.c (cM 7 [[.i 1,.s (S [97]),.i 0,.i 0,.i 0,.sl 1 [],.sl 1 []]])) row) (oE 18) :=
 kS1 [aL 200 [⟨_,_,cD⟩],aL 279 [⟨_,_,cU⟩]]
theorem apEx3 (row : SV) : SX g 287 (apI [101,120,116,114,97,99,116] [92,100,43,35,49] (.c (cM 7 [[.i 1,.s (S [97,49]),.i 0,.i 0,.i 0,.sl 1 [],.sl 1 []]])) row) (oN (S [49])) :=
 kS1 [aL 200 [⟨_,_,cD⟩],aL 279 [⟨_,_,cU⟩]]
theorem apEx4 (row : SV) : SX g 287 (apI [101,120,116,114,97,99,116] [92,100,43,35,49] (.c (cM 7 [[.i 1,.s (S [49,50,45,120]),.i 0,.i 0,.i 0,.sl 1 [],.sl 1 []]])) row) (oN (S [49,50])) :=
 kS1 [aL 200 [⟨_,_,cD⟩],aL 279 [⟨_,_,cU⟩]]
theorem apEx5 (row : SV) : SX g 287 (apI [101,120,116,114,97,99,116] [92,100,43,35,49] (.c (cM 7 [[.i 1,.s (S []),.i 0,.i 0,.i 0,.sl 1 [],.sl 1 []]])) row) (oE 18) :=
 kS1 [aL 200 [⟨_,_,cD⟩],aL 279 [⟨_,_,cU⟩]]
theorem apEx6 (row : SV) : SX g 287 (apI [101,120,116,114,97,99,116] [92,100,43,35,49] (.c (cM 7 [[.i 1,.s (S [72,73,71,72]),.i 0,.i 0,.i 0,.sl 1 [],.sl 1 []]])) row) (oE 18) :=
 kS1 [aL 200 [⟨_,_,cD⟩],aL 279 [⟨_,_,cU⟩]]
theorem apEx7 (row : SV) : SX g 287 (apI [101,120,116,114,97,99,116] [92,100,43,35,49] (.c (cM 7 [[.i 1,.s (S [88,49]),.i 0,.i 0,.i 0,.sl 1 [],.sl 1 []]])) row) (oN (S [49])) :=
 kS1 [aL 200 [⟨_,_,cD⟩],aL 279 [⟨_,_,cU⟩]]
theorem apEx8 (row : SV) : SX g 287 (apI [101,120,116,114,97,99,116] [92,100,43,35,49] (.c (cM 7 [[.i 1,.s (S [45]),.i 0,.i 0,.i 0,.sl 1 [],.sl 1 []]])) row) (oE 18) :=
 kS1 [aL 200 [⟨_,_,cD⟩],aL 279 [⟨_,_,cU⟩]]
theorem apExE16 (row : SV) : SX g 287 (apI [101,120,116,114,97,99,116] [92,100,43,35,49] (.c (cM 7 [[.i 0,.s (S []),.i 0,.i 0,.i 16,.sl 1 [],.sl 1 []]])) row) (oE 16) :=
 kS1 [aL 200 [⟨_,_,cD⟩]]
end Go.Proofs.YtclaplngjmgnoaaGreatDoor
