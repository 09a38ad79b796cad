/- Part 41 of the proof. -/
import Derived.Test.YtclaplngjmgnoaaGreatDoorP36
import Derived.Test.YtclaplngjmgnoaaGreatDoorP39
import Derived.Test.YtclaplngjmgnoaaGreatDoorP40
set_option linter.all false
namespace Go.Proofs.YtclaplngjmgnoaaGreatDoor
set_option maxRecDepth 100000
open Go.RowKit Go.V
variable {g : Gv}
theorem evalXT (p row : D) (u : ByteArray) (h : conj [SX g 211 (evI p row) (oL u),SX g 210 [.c (.d p)] (.c (cB true)),SX g 209 [.agg g0C,.c (.d p)] (y44)]) : SX g 140 (evI p row) (oL u) :=
 kT1 [a7 211 (oL u),a7 210 (.c (cB true)),a7 209 y44] h
theorem aOZ (p row : D) (e : Int) (h : conj [SX g 211 (evI p row) (oE e),SX g 210 [.c (.d p)] (.c (cB true)),SX g 209 [.agg g0C,.c (.d p)] (y44)]) : SX g 140 (evI p row) (oE e) :=
 kT1 [a7 211 (oE e),a7 210 (.c (cB true)),a7 209 y44] h
theorem aMU (p row : D) (u : ByteArray) (h : conj [SX g 140 (evI p row) (oL u)]) : SX g 89 (evI p row) (aT u) :=
 kT1 [a7 140 (oL u)] h
theorem aJE (p row : D) (h : conj [SX g 141 [.c (cI 16)] (oF 16),SX g 140 (evI p row) (oE 16)]) : SX g 89 (evI p row) (oF 16) :=
 kT1 [a7 140 (oE 16),a7 141 (oF 16)] h
theorem aJD (p row : D) (h : conj [SX g 141 [.c (cI 18)] (oF 18),SX g 140 (evI p row) (oE 18)]) : SX g 89 (evI p row) (oF 18) :=
 kT1 [a7 140 (oE 18),a7 141 (oF 18)] h
theorem fitsXTT (s t : ByteArray) (h : conj [RgT g t,RgT g s]) : SX g 342 [lQ,.c (cM 7 [[.i 1,.s s,.i 0,.i 0,.i 0,.sl 1 [],.sl 1 []],[.i 1,.s t,.i 0,.i 0,.i 0,.sl 1 [],.sl 1 []]])] (.c (cB true)) :=
 kT1 [a7 145 (.c (cB true))] h
abbrev y45 : SV := .agg [cI 0,cS (S []),cI 0,cI 0,cI 0,cM 1 [],cM 1 []]
theorem fitsXTN (s t : ByteArray) (h : conj [SX g 145 [y45] (.c (cB true)),RgT g s]) : SX g 342 [lQ,.c (cM 7 [[.i 1,.s s,.i 0,.i 0,.i 0,.sl 1 [],.sl 1 []],[.i 0,.s (S []),.i 0,.i 0,.i 0,.sl 1 [],.sl 1 []]])] (.c (cB true)) :=
 kT1 [a7 145 (.c (cB true))] h
theorem fitsXNT (s t : ByteArray) (h : conj [RgT g t,SX g 145 [y45] (.c (cB true))]) : SX g 342 [lQ,.c (cM 7 [[.i 0,.s (S []),.i 0,.i 0,.i 0,.sl 1 [],.sl 1 []],[.i 1,.s t,.i 0,.i 0,.i 0,.sl 1 [],.sl 1 []]])] (.c (cB true)) :=
 kT1 [a7 145 (.c (cB true))] h
theorem fitsXNN (s t : ByteArray) (h : conj [SX g 145 [y45] (.c (cB true)),SX g 145 [y45] (.c (cB true))]) : SX g 342 [lQ,.c (cM 7 [[.i 0,.s (S []),.i 0,.i 0,.i 0,.sl 1 [],.sl 1 []],[.i 0,.s (S []),.i 0,.i 0,.i 0,.sl 1 [],.sl 1 []]])] (.c (cB true)) :=
 kT1 [a7 145 (.c (cB true))] h
theorem yM  : SX g 145 [y45] (.c (cB true)) :=
 kS1 []
end Go.Proofs.YtclaplngjmgnoaaGreatDoor
namespace Go.Proofs.YtclaplngjmgnoaaGreatDoor
open Go.RowKit Go.V
variable {g : Gv}
def eBx (f : FuncId) (tell : Nat -> Option (SV × Int)) : Ent Tryz.prog (Gl g) where
 f := f
 ask := fun k ins refs => match refs with
  | [(0,.box ty [c0,_])] => match tell k with
   | some (out,q) => some (out,[(0,.box ty [c0,cI q])],[V.Spec Tryz.prog (Gl g) f ins refs out [(0,.box ty [c0,cI q])]])
   | none => none
  | _ => none
 ok := by
  intro k ins refs post out cs h hc;split at h;split at h;cases h; exact hc;cases h;cases h
end Go.Proofs.YtclaplngjmgnoaaGreatDoor
