/- Part 44 of the proof. -/
import Derived.Test.YtclaplngjmgnoaaGreatDoorP41
import Derived.Test.YtclaplngjmgnoaaGreatDoorP43
set_option linter.all false
namespace Go.Proofs.YtclaplngjmgnoaaGreatDoor
set_option maxRecDepth 100000
open Go.RowKit Go.V
variable {g : Gv}
theorem modX0 (a m : Int) (h : conj [decide (a.tmod m < 0) = false,m ≠ 0]) : SX g 44 [.c (cI a),.c (cI m)] (.c (cI (a.tmod m))) :=
 sX (tlO [(103,true),(107,false)]) nFQ nFQ (T := []) (by kernel_rfl) h
theorem modX1 (a m : Int) (h : conj [Go.Eng.inR (a.tmod m + m),decide (a.tmod m < 0) = true,m ≠ 0]) : SX g 44 [.c (cI a),.c (cI m)] (.c (cI (a.tmod m + m))) :=
 sX (tlO [(103,true),(107,true),(109,true)]) nFQ nFQ (T := []) (by kernel_rfl) h
def mdV (a m : Int) : Int := if a.tmod m < 0 then a.tmod m + m else a.tmod m
theorem dA (a : Int) {m : Int} (h : 0 < m) : 0 <= mdV a m /\ mdV a m < m := by
 unfold mdV;have h1 := Int.tmod_lt_of_pos a h;have h2 : -m < a.tmod m := by
  have := Int.lt_tmod_of_pos a h;omega
 split <;> omega
theorem dI (a m : Int) (h : 0 < m) (hm : m <= 1000000) : V.Spec Tryz.prog (Gl g) 44 [.c (cI a),.c (cI m)] [] (.c (cI (mdV a m))) [] := by
 have hb := dA a h;unfold mdV at hb ⊢;split;rename_i hc;rw [if_pos hc] at hb;exact modX1 a m ⟨by unfold Go.Eng.inR; omega,decide_eq_true hc,(show m ≠ 0 by omega)⟩;rename_i hc;exact modX0 a m ⟨decide_eq_false hc,(show m ≠ 0 by omega)⟩
theorem actX (what who n author v id au rank time kind ok : Int) (l : List Int) (row pr : LD) (os prop param : ByteArray) (h : conj [SX g 44 [.c (cI n),.c (cI 4)] (.c (cI v)),Go.Eng.inR (1 + v),SX g 43 [.agg g0C,.c (cI (1 + v)),.c (cM 1 (intsD l))] (.agg [cI id,cI au,cI rank,cI time,cI kind,cM 7 row,cI ok,cS os,cI 0,cI 0,cI 0,cM 1 [],cM 1 [],cS prop,cS param,cM 1 pr]),SX g 42 [.c (cM 1 [[.i 0]])] (.agg g0C)]) : SX g 21 [.agg [cI what,cI who,cI n,cM 1 (intsD l)],.c (cI author)] (.agg [cI id,cI author,cI rank,cI time,cI kind,cM 7 row,cI ok,cS os,cI 0,cI 0,cI 0,cM 1 [],cM 1 [],cS prop,cS param,cM 1 pr]) :=
 sX (tlO [(110,true),(111,true),(112,true)]) (fun k => mkL [103] [] k) nFQ (T := [a7 42 (.agg g0C),a7 44 (.c (cI v)),a7 43 (.agg [cI id,cI au,cI rank,cI time,cI kind,cM 7 row,cI ok,cS os,cI 0,cI 0,cI 0,cM 1 [],cM 1 [],cS prop,cS param,cM 1 pr])]) (by kernel_rfl) h
end Go.Proofs.YtclaplngjmgnoaaGreatDoor
