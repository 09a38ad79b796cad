/- Part 45 of the proof. -/
import Derived.Test.YtclaplngjmgnoaaGreatDoorP42
set_option linter.all false
namespace Go.Proofs.YtclaplngjmgnoaaGreatDoor
set_option maxRecDepth 100000
open Go.RowKit Go.V
variable {g : Gv}
theorem g7 : V.Spec Tryz.prog (Gl g) 206 [.agg g0C] [] (.c (cM 1 [[.i 4],[.i 2]])) [] :=
 kRQ
theorem aBE : V.Spec Tryz.prog (Gl g) 136 [.agg g0C,.c (cI 1)] [] (.c (cM 1 [[.sl 1 [[nlD],[.sl 1 [[.sl 1 [[.i 0]]],[.sl 1 [[.i 1]]]]]]],[.sl 1 [[nlD],[.sl 1 [[.sl 1 [[.i 4]]],[.sl 1 [[.i 5]]]]]]]])) [] :=
 yE nFQ nFQ (T := [aR 206 [⟨_,_,g7⟩]]) (ne := []) (df := []) (F := 100000) (d := 60) (cs := []) hmx (by kernel_rfl) trivial
theorem xC : V.Spec Tryz.prog (Gl g) 137 [.c (cM 1 [[.sl 1 [[.i 0]]],[.sl 1 [[.i 1]]]])] [] (.c (cM 1 [[.sl 1 [[.i 0]]],[.sl 1 [[.i 1]]]])) [] :=
 kRQ
theorem aBD : V.Spec Tryz.prog (Gl g) 136 [.agg g0C,.c (cI 2)] [] (.c (cM 1 [[.sl 1 [[nlD],[.sl 1 [[.sl 1 [[.i 0]]],[.sl 1 [[.i 1]]]]],[.sl 1 [[.sl 1 [[.i 3],[.i 4]]],[.sl 1 [[.i 3],[.i 5]]]]]]],[.sl 1 [[nlD],[.sl 1 [[.sl 1 [[.i 4]]],[.sl 1 [[.i 5]]]]],[.sl 1 [[.sl 1 [[.i 6],[.i 4]]],[.sl 1 [[.i 6],[.i 5]]]]]]]])) [] :=
 yE nFQ (fun k => mkL [1086,1143,1466,1523] [] k) (T := [aR 206 [⟨_,_,g7⟩]]) (ne := []) (df := []) (F := 100000) (d := 60) (cs := []) hmx (by kernel_rfl) trivial
theorem xB : V.Spec Tryz.prog (Gl g) 137 [.c (cM 1 [[.sl 1 [[.i 3],[.i 4]]],[.sl 1 [[.i 3],[.i 5]]]])] [] (.c (cM 1 [[.sl 1 [[.i 3],[.i 4]]],[.sl 1 [[.i 3],[.i 5]]]])) [] :=
 kRQ
theorem aBC : V.Spec Tryz.prog (Gl g) 136 [.agg g0C,.c (cI 3)] [] (.c (cM 1 [[.sl 1 [[nlD],[.sl 1 [[.sl 1 [[.i 0]]],[.sl 1 [[.i 1]]]]],[.sl 1 [[.sl 1 [[.i 3],[.i 4]]],[.sl 1 [[.i 3],[.i 5]]]]],[.sl 1 [[.sl 1 [[.i 2],[.i 4],[.i 0]]],[.sl 1 [[.i 2],[.i 4],[.i 1]]],[.sl 1 [[.i 2],[.i 5],[.i 0]]],[.sl 1 [[.i 2],[.i 5],[.i 1]]],[.sl 1 [[.i 3],[.i 6],[.i 4]]],[.sl 1 [[.i 3],[.i 6],[.i 5]]]]]]],[.sl 1 [[nlD],[.sl 1 [[.sl 1 [[.i 4]]],[.sl 1 [[.i 5]]]]],[.sl 1 [[.sl 1 [[.i 6],[.i 4]]],[.sl 1 [[.i 6],[.i 5]]]]]]]])) [] :=
 yE nFQ (fun k => bif Nat.ble 2077 k then (bif Nat.ble 2418 k then (mkL [2418,2473,2568,2625] [] k) else (mkL [2077,2148,2205] [] k)) else (bif Nat.ble 1523 k then (mkL [1523,1858,1929,1986] [] k) else (mkL [1086,1143,1466] [] k))) (T := [aR 206 [⟨_,_,g7⟩]]) (ne := []) (df := []) (F := 100000) (d := 60) (cs := []) hmx (by kernel_rfl) trivial
theorem xA : V.Spec Tryz.prog (Gl g) 137 [.c (cM 1 [[.sl 1 [[.i 2],[.i 4],[.i 0]]],[.sl 1 [[.i 2],[.i 4],[.i 1]]],[.sl 1 [[.i 2],[.i 5],[.i 0]]],[.sl 1 [[.i 2],[.i 5],[.i 1]]],[.sl 1 [[.i 3],[.i 6],[.i 4]]],[.sl 1 [[.i 3],[.i 6],[.i 5]]]])] [] (.c (cM 1 [[.sl 1 [[.i 2],[.i 4],[.i 0]]],[.sl 1 [[.i 2],[.i 4],[.i 1]]],[.sl 1 [[.i 2],[.i 5],[.i 0]]],[.sl 1 [[.i 2],[.i 5],[.i 1]]],[.sl 1 [[.i 3],[.i 6],[.i 4]]],[.sl 1 [[.i 3],[.i 6],[.i 5]]]])) [] :=
 kRQ
theorem aBB : V.Spec Tryz.prog (Gl g) 136 [.agg g0C,.c (cI 4)] [] (.c (cM 1 [[.sl 1 [[nlD],[.sl 1 [[.sl 1 [[.i 0]]],[.sl 1 [[.i 1]]]]],[.sl 1 [[.sl 1 [[.i 3],[.i 4]]],[.sl 1 [[.i 3],[.i 5]]]]],[.sl 1 [[.sl 1 [[.i 2],[.i 4],[.i 0]]],[.sl 1 [[.i 2],[.i 4],[.i 1]]],[.sl 1 [[.i 2],[.i 5],[.i 0]]],[.sl 1 [[.i 2],[.i 5],[.i 1]]],[.sl 1 [[.i 3],[.i 6],[.i 4]]],[.sl 1 [[.i 3],[.i 6],[.i 5]]]]],[.sl 1 [[.sl 1 [[.i 2],[.i 4],[.i 3],[.i 4]]],[.sl 1 [[.i 2],[.i 4],[.i 3],[.i 5]]],[.sl 1 [[.i 2],[.i 5],[.i 3],[.i 4]]],[.sl 1 [[.i 2],[.i 5],[.i 3],[.i 5]]],[.sl 1 [[.i 2],[.i 6],[.i 4],[.i 0]]],[.sl 1 [[.i 2],[.i 6],[.i 4],[.i 1]]],[.sl 1 [[.i 2],[.i 6],[.i 5],[.i 0]]],[.sl 1 [[.i 2],[.i 6],[.i 5],[.i 1]]]]]]],[.sl 1 [[nlD],[.sl 1 [[.sl 1 [[.i 4]]],[.sl 1 [[.i 5]]]]],[.sl 1 [[.sl 1 [[.i 6],[.i 4]]],[.sl 1 [[.i 6],[.i 5]]]]]]]])) [] :=
 yE nFQ (fun k => bif Nat.ble 3262 k then (bif Nat.ble 3890 k then (bif Nat.ble 4166 k then (mkL [4166,4379,4434,4529,4584] [] k) else (mkL [3890,3947,4038,4109] [] k)) else (bif Nat.ble 3536 k then (mkL [3536,3631,3688,3819] [] k) else (mkL [3262,3319,3410,3481] [] k))) else (bif Nat.ble 2148 k then (bif Nat.ble 2568 k then (mkL [2568,2625,3041,3112,3167] [] k) else (mkL [2148,2205,2418,2473] [] k)) else (bif Nat.ble 1858 k then (mkL [1858,1929,1986,2077] [] k) else (mkL [1086,1143,1466,1523] [] k)))) (T := [aR 206 [⟨_,_,g7⟩]]) (ne := []) (df := []) (F := 100000) (d := 60) (cs := []) hmx (by kernel_rfl) trivial
theorem w9 : V.Spec Tryz.prog (Gl g) 137 [.c (cM 1 [[.sl 1 [[.i 2],[.i 4],[.i 3],[.i 4]]],[.sl 1 [[.i 2],[.i 4],[.i 3],[.i 5]]],[.sl 1 [[.i 2],[.i 5],[.i 3],[.i 4]]],[.sl 1 [[.i 2],[.i 5],[.i 3],[.i 5]]],[.sl 1 [[.i 2],[.i 6],[.i 4],[.i 0]]],[.sl 1 [[.i 2],[.i 6],[.i 4],[.i 1]]],[.sl 1 [[.i 2],[.i 6],[.i 5],[.i 0]]],[.sl 1 [[.i 2],[.i 6],[.i 5],[.i 1]]]])] [] (.c (cM 1 [[.sl 1 [[.i 2],[.i 4],[.i 3],[.i 4]]],[.sl 1 [[.i 2],[.i 4],[.i 3],[.i 5]]],[.sl 1 [[.i 2],[.i 5],[.i 3],[.i 4]]],[.sl 1 [[.i 2],[.i 5],[.i 3],[.i 5]]],[.sl 1 [[.i 2],[.i 6],[.i 4],[.i 0]]],[.sl 1 [[.i 2],[.i 6],[.i 4],[.i 1]]],[.sl 1 [[.i 2],[.i 6],[.i 5],[.i 0]]],[.sl 1 [[.i 2],[.i 6],[.i 5],[.i 1]]]])) [] :=
 kRQ
def progs : List (List Int) := [[0],[1],[3,4],[3,5],[2,4,0],[2,4,1],[2,5,0],[2,5,1],[3,6,4],[3,6,5],[2,4,3,4],[2,4,3,5],[2,5,3,4],[2,5,3,5],[2,6,4,0],[2,6,4,1],[2,6,5,0],[2,6,5,1]]
def pkL : Nat -> Option Value := (fun k => mkL [136,169,202,235] [(250,6)] k)
def pkH (p : List Int) (k : Nat) : Option (List D) := bif Nat.beq k 257 then some [.sl 1 (intsD p)] else none
def pkO (k : Nat) : Option Bool := bif Nat.beq k 257 then some true else none
def pkT (v : Int) : List (Ent Tryz.prog (Gl g)) := [aR 136 [⟨_,_,aBE⟩,⟨_,_,aBD⟩,⟨_,_,aBC⟩,⟨_,_,aBB⟩],aR 137 [⟨_,_,xC⟩,⟨_,_,xB⟩,⟨_,_,xA⟩,⟨_,_,w9⟩],a7 44 (.c (cI v))]
end Go.Proofs.YtclaplngjmgnoaaGreatDoor
