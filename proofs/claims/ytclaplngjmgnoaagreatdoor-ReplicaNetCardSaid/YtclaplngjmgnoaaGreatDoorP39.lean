/- Part 39 of the proof. -/
import Derived.Test.YtclaplngjmgnoaaGreatDoorP36
set_option linter.all false
namespace Go.Proofs.YtclaplngjmgnoaaGreatDoor
set_option maxRecDepth 100000
open Go.RowKit Go.V
section
variable {g : Gv}
theorem tyCo : SX g 200 [.c (cS (S [99,111,110,99,97,116])),.c (cS (S [])),.c (cM 3 fZ),.c (cM 2 [[.s (S [97]),.i 1],[.s (S [98]),.i 1]])] (y41 [[.i 1],[.i 1]]) :=
 kS1 []
theorem rdCo : SX g 279 [.c (cS (S [99,111,110,99,97,116])),.c (cS (S []))] (y39) :=
 kS1 []
theorem tyCA : SX g 200 [.c (cS (S [99,111,108])),.c (cS (S [97])),.c (cM 3 fZ),.c (cM 2 [[.s (S [97]),.i 1],[.s (S [98]),.i 1]])] (y40) :=
 kS1 []
theorem rdCA : SX g 279 [.c (cS (S [99,111,108])),.c (cS (S [97]))] (.tup [(true,[cM 1 [[.s (S [97])]],cI 0,cI 0,cI 0,cI 0,.d (nlD)]),(false,[cB true])]) :=
 kS1 []
theorem tyCB : SX g 200 [.c (cS (S [99,111,108])),.c (cS (S [98])),.c (cM 3 fZ),.c (cM 2 [[.s (S [97]),.i 1],[.s (S [98]),.i 1]])] (y40) :=
 kS1 []
theorem rdCB : SX g 279 [.c (cS (S [99,111,108])),.c (cS (S [98]))] (.tup [(true,[cM 1 [[.s (S [98])]],cI 0,cI 0,cI 0,cI 0,.d (nlD)]),(false,[cB true])]) :=
 kS1 []
end
section
variable {g : Gv}
theorem coX (row : SV) (s t : ByteArray) (h : conj [s.size + t.size <= Go.maxLen,decide ((s.size : Int) + t.size > 200) = false,Go.Eng.inR ((s.size : Int) + t.size),RgT g t,RgT g s]) : SX g 287 (apI [99,111,110,99,97,116] [] (.c (cM 7 [tL s,tL t])) (row)) (oN (s ++ t)) :=
 sX (tlO [(261,true),(263,false),(268,true)]) nFQ nFQ (T := [aR 200 [⟨_,_,tyCo⟩],aR 279 [⟨_,_,rdCo⟩],a7 145 (.c (cB true)),a7 342 (.c (cB true))]) (by kernel_rfl) h
theorem coE16 (row : SV) (c : List D) : SX g 287 (apI [99,111,110,99,97,116] [] (.c (cM 7 [[.i 0,.s (S []),.i 0,.i 0,.i 16,.sl 1 [],.sl 1 []],c])) (row)) (oE 16) :=
 kS1 [aR 200 [⟨_,_,tyCo⟩],aR 279 [⟨_,_,rdCo⟩],a7 145 (.c (cB true)),a7 342 (.c (cB true))]
theorem coF16 (row : SV) (s : ByteArray) (h : conj [RgT g s]) : SX g 287 (apI [99,111,110,99,97,116] [] (.c (cM 7 [tL s,[.i 0,.s (S []),.i 0,.i 0,.i 16,.sl 1 [],.sl 1 []]])) (row)) (oE 16) :=
 kT1 [aR 200 [⟨_,_,tyCo⟩],aR 279 [⟨_,_,rdCo⟩],a7 145 (.c (cB true)),a7 342 (.c (cB true))] h
theorem coE18 (row : SV) (c : List D) : SX g 287 (apI [99,111,110,99,97,116] [] (.c (cM 7 [[.i 0,.s (S []),.i 0,.i 0,.i 18,.sl 1 [],.sl 1 []],c])) (row)) (oE 18) :=
 kS1 [aR 200 [⟨_,_,tyCo⟩],aR 279 [⟨_,_,rdCo⟩],a7 145 (.c (cB true)),a7 342 (.c (cB true))]
theorem aPL (s : ByteArray) (c : List D) (h : conj [SX g 342 [lQ,.c (cM 7 [[.i 1,.s s,.i 0,.i 0,.i 0,.sl 1 [],.sl 1 []],c])] (.c (cB true))]) : SX g 287 (apI [99,111,108] [97] (.c (.d nlD)) (.c (cM 7 [[.i 1,.s s,.i 0,.i 0,.i 0,.sl 1 [],.sl 1 []],c]))) (oC s) :=
 kT1 [aR 200 [⟨_,_,tyCA⟩],aR 279 [⟨_,_,rdCA⟩],a7 145 (.c (cB true)),a7 342 (.c (cB true))] h
theorem aPM (c : List D) (h : conj [SX g 342 [lQ,.c (cM 7 [[.i 0,.s (S []),.i 0,.i 0,.i 0,.sl 1 [],.sl 1 []],c])] (.c (cB true))]) : SX g 287 (apI [99,111,108] [97] (.c (.d nlD)) (.c (cM 7 [[.i 0,.s (S []),.i 0,.i 0,.i 0,.sl 1 [],.sl 1 []],c]))) (oE 16) :=
 kT1 [aR 200 [⟨_,_,tyCA⟩],aR 279 [⟨_,_,rdCA⟩],a7 145 (.c (cB true)),a7 342 (.c (cB true))] h
theorem colBX (s : ByteArray) (c : List D) (h : conj [SX g 342 [lQ,.c (cM 7 [c,[.i 1,.s s,.i 0,.i 0,.i 0,.sl 1 [],.sl 1 []]])] (.c (cB true))]) : SX g 287 (apI [99,111,108] [98] (.c (.d nlD)) (.c (cM 7 [c,[.i 1,.s s,.i 0,.i 0,.i 0,.sl 1 [],.sl 1 []]]))) (oC s) :=
 kT1 [aR 200 [⟨_,_,tyCB⟩],aR 279 [⟨_,_,rdCB⟩],a7 145 (.c (cB true)),a7 342 (.c (cB true))] h
theorem colBE (c : List D) (h : conj [SX g 342 [lQ,.c (cM 7 [c,[.i 0,.s (S []),.i 0,.i 0,.i 0,.sl 1 [],.sl 1 []]])] (.c (cB true))]) : SX g 287 (apI [99,111,108] [98] (.c (.d nlD)) (.c (cM 7 [c,[.i 0,.s (S []),.i 0,.i 0,.i 0,.sl 1 [],.sl 1 []]]))) (oE 16) :=
 kT1 [aR 200 [⟨_,_,tyCB⟩],aR 279 [⟨_,_,rdCB⟩],a7 145 (.c (cB true)),a7 342 (.c (cB true))] h
end
section
variable {g : Gv}
abbrev y42 : SV := .tup [(false,[.d (nlD)]),(false,[cB true])]
theorem ev0T (rest : LD) (row  : D) (u : ByteArray) (h : conj [SX g 287 (apI [99,111,108] [97] (.c (.d nlD)) (.c (.d row))) (oL u),SX g 286 [.agg g0C,.c (cM 1 ([.i 0] :: rest))] (y42)]) : SX g 211 (evI (.sl 1 ([.i 0] :: rest)) row) (oL u) :=
 kT1 [a7 286 y42,a7 287 (oL u)] h
theorem ev0E (rest : LD) (row  : D) (e : Int) (h : conj [SX g 287 (apI [99,111,108] [97] (.c (.d nlD)) (.c (.d row))) (oE e),SX g 286 [.agg g0C,.c (cM 1 ([.i 0] :: rest))] (y42)]) : SX g 211 (evI (.sl 1 ([.i 0] :: rest)) row) (oE e) :=
 kT1 [a7 286 y42,a7 287 (oE e)] h
theorem ev1T (rest : LD) (row  : D) (u : ByteArray) (h : conj [SX g 287 (apI [99,111,108] [98] (.c (.d nlD)) (.c (.d row))) (oL u),SX g 286 [.agg g0C,.c (cM 1 ([.i 1] :: rest))] (y42)]) : SX g 211 (evI (.sl 1 ([.i 1] :: rest)) row) (oL u) :=
 kT1 [a7 286 y42,a7 287 (oL u)] h
theorem ev1E (rest : LD) (row  : D) (e : Int) (h : conj [SX g 287 (apI [99,111,108] [98] (.c (.d nlD)) (.c (.d row))) (oE e),SX g 286 [.agg g0C,.c (cM 1 ([.i 1] :: rest))] (y42)]) : SX g 211 (evI (.sl 1 ([.i 1] :: rest)) row) (oE e) :=
 kT1 [a7 286 y42,a7 287 (oE e)] h
theorem aO2 (rest : LD) (row x y : D) (s : ByteArray) (t : ByteArray) (u : ByteArray) (h : conj [SX g 287 (apI [99,111,110,99,97,116] [] (.c (cM 7 [tL s,tL t])) (.c (.d row))) (oN u),SX g 211 (evI y row) (oL t),SX g 211 (evI x row) (oL s),SX g 286 [.agg g0C,.c (cM 1 ([.i 2] :: rest))] (y43 [[x],[y]])]) : SX g 211 (evI (.sl 1 ([.i 2] :: rest)) row) (oN u) :=
 kT1 [a7 286 (y43 [[x],[y]]),a7 287 (oN u),iS 211 (tlS [(133,oL s),(161,oL t)])] h
theorem aKS (rest : LD) (row x y : D) (s : ByteArray) (e : Int) (h : conj [SX g 287 (apI [99,111,110,99,97,116] [] (.c (cM 7 [tL s,fL 16])) (.c (.d row))) (oE e),SX g 141 [.c (cI 16)] (oF 16),SX g 211 (evI y row) (oE 16),SX g 211 (evI x row) (oL s),SX g 286 [.agg g0C,.c (cM 1 ([.i 2] :: rest))] (y43 [[x],[y]])]) : SX g 211 (evI (.sl 1 ([.i 2] :: rest)) row) (oE e) :=
 kT1 [a7 286 (y43 [[x],[y]]),a7 287 (oE e),iS 211 (tlS [(133,oL s),(161,oE 16)]),a7 141 (oF 16)] h
theorem aKU (rest : LD) (row x y : D) (t : ByteArray) (e : Int) (h : conj [SX g 287 (apI [99,111,110,99,97,116] [] (.c (cM 7 [fL 16,tL t])) (.c (.d row))) (oE e),SX g 211 (evI y row) (oL t),SX g 141 [.c (cI 16)] (oF 16),SX g 211 (evI x row) (oE 16),SX g 286 [.agg g0C,.c (cM 1 ([.i 2] :: rest))] (y43 [[x],[y]])]) : SX g 211 (evI (.sl 1 ([.i 2] :: rest)) row) (oE e) :=
 kT1 [a7 286 (y43 [[x],[y]]),a7 287 (oE e),iS 211 (tlS [(133,oE 16),(164,oL t)]),a7 141 (oF 16)] h
theorem aF7 (rest : LD) (row x y : D) (e : Int) (h : conj [SX g 287 (apI [99,111,110,99,97,116] [] (.c (cM 7 [fL 16,fL 16])) (.c (.d row))) (oE e),SX g 141 [.c (cI 16)] (oF 16),SX g 211 (evI y row) (oE 16),SX g 141 [.c (cI 16)] (oF 16),SX g 211 (evI x row) (oE 16),SX g 286 [.agg g0C,.c (cM 1 ([.i 2] :: rest))] (y43 [[x],[y]])]) : SX g 211 (evI (.sl 1 ([.i 2] :: rest)) row) (oE e) :=
 kT1 [a7 286 (y43 [[x],[y]]),a7 287 (oE e),iS 211 (tlS [(133,oE 16),(164,oE 16)]),a7 141 (oF 16)] h
theorem aKT (rest : LD) (row x y : D) (t : ByteArray) (e : Int) (h : conj [SX g 287 (apI [99,111,110,99,97,116] [] (.c (cM 7 [fL 18,tL t])) (.c (.d row))) (oE e),SX g 211 (evI y row) (oL t),SX g 141 [.c (cI 18)] (oF 18),SX g 211 (evI x row) (oE 18),SX g 286 [.agg g0C,.c (cM 1 ([.i 2] :: rest))] (y43 [[x],[y]])]) : SX g 211 (evI (.sl 1 ([.i 2] :: rest)) row) (oE e) :=
 kT1 [a7 286 (y43 [[x],[y]]),a7 287 (oE e),iS 211 (tlS [(133,oE 18),(164,oL t)]),a7 141 (oF 18)] h
theorem aF6 (rest : LD) (row x y : D) (e : Int) (h : conj [SX g 287 (apI [99,111,110,99,97,116] [] (.c (cM 7 [fL 18,fL 16])) (.c (.d row))) (oE e),SX g 141 [.c (cI 16)] (oF 16),SX g 211 (evI y row) (oE 16),SX g 141 [.c (cI 18)] (oF 18),SX g 211 (evI x row) (oE 18),SX g 286 [.agg g0C,.c (cM 1 ([.i 2] :: rest))] (y43 [[x],[y]])]) : SX g 211 (evI (.sl 1 ([.i 2] :: rest)) row) (oE e) :=
 kT1 [a7 286 (y43 [[x],[y]]),a7 287 (oE e),iS 211 (tlS [(133,oE 18),(164,oE 16)]),iS 141 (tlS [(143,oF 18),(174,oF 16)])] h
theorem ev3_TT (rest : LD) (row x : D) (s : ByteArray) (u : ByteArray) (h : conj [SX g 287 (apI [117,112,112,101,114] [] (.c (cM 7 [tL s])) (.c (.d row))) (oN u),SX g 211 (evI x row) (oL s),SX g 286 [.agg g0C,.c (cM 1 ([.i 3] :: rest))] (y43 [[x]])]) : SX g 211 (evI (.sl 1 ([.i 3] :: rest)) row) (oN u) :=
 kT1 [a7 286 (y43 [[x]]),a7 287 (oN u),iS 211 (tlS [(133,oL s)])] h
theorem ev3_16E (rest : LD) (row x : D) (e : Int) (h : conj [SX g 287 (apI [117,112,112,101,114] [] (.c (cM 7 [fL 16])) (.c (.d row))) (oE e),SX g 141 [.c (cI 16)] (oF 16),SX g 211 (evI x row) (oE 16),SX g 286 [.agg g0C,.c (cM 1 ([.i 3] :: rest))] (y43 [[x]])]) : SX g 211 (evI (.sl 1 ([.i 3] :: rest)) row) (oE e) :=
 kT1 [a7 286 (y43 [[x]]),a7 287 (oE e),iS 211 (tlS [(133,oE 16)]),a7 141 (oF 16)] h
theorem ev3_18E (rest : LD) (row x : D) (e : Int) (h : conj [SX g 287 (apI [117,112,112,101,114] [] (.c (cM 7 [fL 18])) (.c (.d row))) (oE e),SX g 141 [.c (cI 18)] (oF 18),SX g 211 (evI x row) (oE 18),SX g 286 [.agg g0C,.c (cM 1 ([.i 3] :: rest))] (y43 [[x]])]) : SX g 211 (evI (.sl 1 ([.i 3] :: rest)) row) (oE e) :=
 kT1 [a7 286 (y43 [[x]]),a7 287 (oE e),iS 211 (tlS [(133,oE 18)]),a7 141 (oF 18)] h
theorem ev4T (rest : LD) (row  : D) (u : ByteArray) (h : conj [SX g 287 (apI [99,111,108] [97] (.c (.d nlD)) (.c (.d row))) (oL u),SX g 286 [.agg g0C,.c (cM 1 ([.i 4] :: rest))] (y42)]) : SX g 211 (evI (.sl 1 ([.i 4] :: rest)) row) (oL u) :=
 kT1 [a7 286 y42,a7 287 (oL u)] h
theorem ev4E (rest : LD) (row  : D) (e : Int) (h : conj [SX g 287 (apI [99,111,108] [97] (.c (.d nlD)) (.c (.d row))) (oE e),SX g 286 [.agg g0C,.c (cM 1 ([.i 4] :: rest))] (y42)]) : SX g 211 (evI (.sl 1 ([.i 4] :: rest)) row) (oE e) :=
 kT1 [a7 286 y42,a7 287 (oE e)] h
theorem ev5T (rest : LD) (row  : D) (u : ByteArray) (h : conj [SX g 287 (apI [116,101,120,116] [45] (.c (.d nlD)) (.c (.d row))) (oL u),SX g 286 [.agg g0C,.c (cM 1 ([.i 5] :: rest))] (y42)]) : SX g 211 (evI (.sl 1 ([.i 5] :: rest)) row) (oL u) :=
 kT1 [a7 286 y42,a7 287 (oL u)] h
theorem ev6_TT (rest : LD) (row x : D) (s : ByteArray) (u : ByteArray) (h : conj [SX g 287 (apI [101,120,116,114,97,99,116] [92,100,43,35,49] (.c (cM 7 [tL s])) (.c (.d row))) (oN u),SX g 211 (evI x row) (oL s),SX g 286 [.agg g0C,.c (cM 1 ([.i 6] :: rest))] (y43 [[x]])]) : SX g 211 (evI (.sl 1 ([.i 6] :: rest)) row) (oN u) :=
 kT1 [a7 286 (y43 [[x]]),a7 287 (oN u),iS 211 (tlS [(133,oL s)])] h
theorem aO0 (rest : LD) (row x : D) (s : ByteArray) (e : Int) (h : conj [SX g 287 (apI [101,120,116,114,97,99,116] [92,100,43,35,49] (.c (cM 7 [tL s])) (.c (.d row))) (oE e),SX g 211 (evI x row) (oL s),SX g 286 [.agg g0C,.c (cM 1 ([.i 6] :: rest))] (y43 [[x]])]) : SX g 211 (evI (.sl 1 ([.i 6] :: rest)) row) (oE e) :=
 kT1 [a7 286 (y43 [[x]]),a7 287 (oE e),iS 211 (tlS [(133,oL s)])] h
theorem ev6_16E (rest : LD) (row x : D) (e : Int) (h : conj [SX g 287 (apI [101,120,116,114,97,99,116] [92,100,43,35,49] (.c (cM 7 [fL 16])) (.c (.d row))) (oE e),SX g 141 [.c (cI 16)] (oF 16),SX g 211 (evI x row) (oE 16),SX g 286 [.agg g0C,.c (cM 1 ([.i 6] :: rest))] (y43 [[x]])]) : SX g 211 (evI (.sl 1 ([.i 6] :: rest)) row) (oE e) :=
 kT1 [a7 286 (y43 [[x]]),a7 287 (oE e),iS 211 (tlS [(133,oE 16)]),a7 141 (oF 16)] h
end
end Go.Proofs.YtclaplngjmgnoaaGreatDoor
