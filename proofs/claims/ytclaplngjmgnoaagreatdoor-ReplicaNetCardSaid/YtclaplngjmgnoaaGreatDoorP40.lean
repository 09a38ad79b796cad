/- Part 40 of the proof. -/
import Derived.Test.YtclaplngjmgnoaaGreatDoorP36
set_option linter.all false
namespace Go.Proofs.YtclaplngjmgnoaaGreatDoor
set_option maxRecDepth 100000
open Go.RowKit Go.V
variable {g : Gv}
def SpS (g : Gv) (p : List Int) (ks : List (List Int)) : Prop := SX g 286 [.agg g0C,.c (cM 1 (intsD p))] (y43 (ks.map fun k => [.sl 1 (intsD k)]))
def SpN (g : Gv) (p : List Int) : Prop := SX g 286 [.agg g0C,.c (cM 1 (intsD p))] (.tup [(false,[.d nlD]),(false,[cB true])])
abbrev y44 : SV := .tup [(false,[cI 0]),(false,[cB true])]
def SyS (g : Gv) (p : List Int) : Prop := SX g 209 [.agg g0C,.c (cM 1 (intsD p))] (y44)
def ClS (g : Gv) (p : List Int) : Prop := SX g 210 [.c (cM 1 (intsD p))] (.c (cB true))
theorem spX {p : List Int} {ks : List (List Int)} (lit : Nat -> Option Value) (h : xW (P := Tryz.prog) (G := Gl g) [aR 130 [⟨_,_,yL⟩]] [] [] nFQ lit 100000 60 286 [.agg g0C,.c (cM 1 (intsD p))] nFQ = some (y43 (ks.map fun k => [.sl 1 (intsD k)]),[])) : SpS g p ks := sX _ _ _ h trivial
theorem snX {p : List Int} (h : xW (P := Tryz.prog) (G := Gl g) [aR 130 [⟨_,_,yL⟩]] [] [] nFQ nFQ 100000 60 286 [.agg g0C,.c (cM 1 (intsD p))] nFQ = some (.tup [(false,[.d nlD]),(false,[cB true])],[])) : SpN g p := sX _ _ _ h trivial
theorem syX {p : List Int} (h : xW (P := Tryz.prog) (G := Gl g) [aR 130 [⟨_,_,yL⟩]] [] [] nFQ nFQ 100000 60 209 [.agg g0C,.c (cM 1 (intsD p))] nFQ = some (y44,[])) : SyS g p := sX _ _ _ h trivial
theorem clX {p : List Int} (h : xW (P := Tryz.prog) (G := Gl g) [] [] [] nFQ nFQ 100000 60 210 [.c (cM 1 (intsD p))] nFQ = some (.c (cB true),[])) : ClS g p := sX _ _ _ h trivial
set_option maxRecDepth 100000
theorem failX16  : SX g 141 [.c (cI 16)] (.agg [cI 0,cS (S []),cI 0,cI 0,cI 16,.d (nlD),.d (nlD)]) :=
 kS1 []
theorem failX18  : SX g 141 [.c (cI 18)] (.agg [cI 0,cS (S []),cI 0,cI 0,cI 18,.d (nlD),.d (nlD)]) :=
 kS1 []
theorem aMG : SpN g [0] := snX (by kernel_rfl)
theorem aMF : SpN g [1] := snX (by kernel_rfl)
theorem aGP : SpS g [3,4] [[4]] := spX (fun k => mkL [414,420] [] k) (by kernel_rfl)
theorem aGO : SpS g [3,5] [[5]] := spX (fun k => mkL [414,420] [] k) (by kernel_rfl)
theorem aME : SpS g [2,4,0] [[4],[0]] := spX (fun k => mkL [501,507,594,600] [] k) (by kernel_rfl)
theorem aMD : SpS g [2,4,1] [[4],[1]] := spX (fun k => mkL [501,507,594,600] [] k) (by kernel_rfl)
theorem aMC : SpS g [2,5,0] [[5],[0]] := spX (fun k => mkL [501,507,594,600] [] k) (by kernel_rfl)
theorem aMB : SpS g [2,5,1] [[5],[1]] := spX (fun k => mkL [501,507,594,600] [] k) (by kernel_rfl)
theorem aBS : SpS g [3,6,4] [[6,4]] := spX (fun k => mkL [588,594] [] k) (by kernel_rfl)
theorem aMA : SpS g [3,6,5] [[6,5]] := spX (fun k => mkL [588,594] [] k) (by kernel_rfl)
theorem aI6 : SpS g [2,4,3,4] [[4],[3,4]] := spX (fun k => mkL [588,594,768,774] [] k) (by kernel_rfl)
theorem aI5 : SpS g [2,4,3,5] [[4],[3,5]] := spX (fun k => mkL [588,594,768,774] [] k) (by kernel_rfl)
theorem aI4 : SpS g [2,5,3,4] [[5],[3,4]] := spX (fun k => mkL [588,594,768,774] [] k) (by kernel_rfl)
theorem aI3 : SpS g [2,5,3,5] [[5],[3,5]] := spX (fun k => mkL [588,594,768,774] [] k) (by kernel_rfl)
theorem aI2 : SpS g [2,6,4,0] [[6,4],[0]] := spX (fun k => mkL [675,681,768,774] [] k) (by kernel_rfl)
theorem aI1 : SpS g [2,6,4,1] [[6,4],[1]] := spX (fun k => mkL [675,681,768,774] [] k) (by kernel_rfl)
theorem aI0 : SpS g [2,6,5,0] [[6,5],[0]] := spX (fun k => mkL [675,681,768,774] [] k) (by kernel_rfl)
theorem aIZ : SpS g [2,6,5,1] [[6,5],[1]] := spX (fun k => mkL [675,681,768,774] [] k) (by kernel_rfl)
theorem yD : SpN g [4] := snX (by kernel_rfl)
theorem aL9 : SpN g [5] := snX (by kernel_rfl)
theorem yC : SpS g [6,4] [[4]] := spX (fun k => mkL [414,420] [] k) (by kernel_rfl)
theorem split65 : SpS g [6,5] [[5]] := spX (fun k => mkL [414,420] [] k) (by kernel_rfl)
theorem symb0 : SyS g [0] := syX (by kernel_rfl)
theorem clos0 : ClS g [0] := clX (by kernel_rfl)
theorem symb1 : SyS g [1] := syX (by kernel_rfl)
theorem clos1 : ClS g [1] := clX (by kernel_rfl)
theorem symb34 : SyS g [3,4] := syX (by kernel_rfl)
theorem clos34 : ClS g [3,4] := clX (by kernel_rfl)
theorem symb35 : SyS g [3,5] := syX (by kernel_rfl)
theorem clos35 : ClS g [3,5] := clX (by kernel_rfl)
theorem symb240 : SyS g [2,4,0] := syX (by kernel_rfl)
theorem clos240 : ClS g [2,4,0] := clX (by kernel_rfl)
theorem symb241 : SyS g [2,4,1] := syX (by kernel_rfl)
theorem clos241 : ClS g [2,4,1] := clX (by kernel_rfl)
theorem symb250 : SyS g [2,5,0] := syX (by kernel_rfl)
theorem clos250 : ClS g [2,5,0] := clX (by kernel_rfl)
theorem symb251 : SyS g [2,5,1] := syX (by kernel_rfl)
theorem clos251 : ClS g [2,5,1] := clX (by kernel_rfl)
theorem symb364 : SyS g [3,6,4] := syX (by kernel_rfl)
theorem clos364 : ClS g [3,6,4] := clX (by kernel_rfl)
theorem symb365 : SyS g [3,6,5] := syX (by kernel_rfl)
theorem clos365 : ClS g [3,6,5] := clX (by kernel_rfl)
theorem aL5 : SyS g [2,4,3,4] := syX (by kernel_rfl)
theorem aPU : ClS g [2,4,3,4] := clX (by kernel_rfl)
theorem aL4 : SyS g [2,4,3,5] := syX (by kernel_rfl)
theorem aPT : ClS g [2,4,3,5] := clX (by kernel_rfl)
theorem aL3 : SyS g [2,5,3,4] := syX (by kernel_rfl)
theorem aPS : ClS g [2,5,3,4] := clX (by kernel_rfl)
theorem aL2 : SyS g [2,5,3,5] := syX (by kernel_rfl)
theorem aPR : ClS g [2,5,3,5] := clX (by kernel_rfl)
theorem aL1 : SyS g [2,6,4,0] := syX (by kernel_rfl)
theorem aPQ : ClS g [2,6,4,0] := clX (by kernel_rfl)
theorem aL0 : SyS g [2,6,4,1] := syX (by kernel_rfl)
theorem aPP : ClS g [2,6,4,1] := clX (by kernel_rfl)
theorem aLZ : SyS g [2,6,5,0] := syX (by kernel_rfl)
theorem aPO : ClS g [2,6,5,0] := clX (by kernel_rfl)
theorem aLY : SyS g [2,6,5,1] := syX (by kernel_rfl)
theorem aPN : ClS g [2,6,5,1] := clX (by kernel_rfl)
end Go.Proofs.YtclaplngjmgnoaaGreatDoor
