/- Part 42 of the proof. -/
import Derived.Test.YtclaplngjmgnoaaGreatDoorP35
import Derived.Test.YtclaplngjmgnoaaGreatDoorP36
set_option linter.all false
namespace Go.Proofs.YtclaplngjmgnoaaGreatDoor
set_option maxRecDepth 100000
open Go.RowKit Go.V
variable {g : Gv}
structure LitA (g : Gv) (f : FuncId) where
 ins : List SV
 out : SV
 post : aZ
 ok : V.Spec Tryz.prog (Gl g) f ins [] out post
def zH {f : FuncId} : List (LitA g f) -> List SV -> Option (LitA g f)
 | [],_ => none
 | e :: r,ins => bif allEq aIT e.ins ins then some e else zH r ins
theorem vZ {f : FuncId} : ∀ {T : List (LitA g f)} {ins : List SV} {e : LitA g f},zH T ins = some e -> e.ins = ins
 | [],ins,e,h => by cases h
 | x :: r,ins,e,h => by
  unfold zH at h;cases hb : allEq aIT x.ins ins with
  | false => rw [hb] at h; exact vZ h
  | true =>
   rw [hb] at h;simp only [cond_true,oIQ] at h;subst h;exact iW (fun _ _ => aGL) hb
def eLitsA (f : FuncId) (T : List (LitA g f)) : Ent Tryz.prog (Gl g) where
 f := f
 ask := fun _ ins refs => match refs with
  | [] => match zH T ins with
   | some e => some (e.out,e.post,[])
   | none => none
  | _ => none
 ok := by
  intro k ins refs post out cs h _;split at h;split at h;rename_i e he;simp only [oIQ,pIQ] at h;obtain ⟨rfl,rfl,_⟩ := h;rw [<- vZ he];exact e.ok;cases h;cases h
theorem xT : V.Spec Tryz.prog (Gl g) 202 [.c (cM 1 [[.s (S [])],[.s (S [1])],[.s (S [])],[.s (S [])],[.s (S [])],[.s (S [])],[.s (S [])],[.s (S [])],[.s (S [])],[.s (S [])]]),.c (cM 1 [[.s (S [])],[.s (S [])],[.s (S [])]])] [] (.c (.ar 100 0)) [(100,(.arr 0 225 1 [[.s (S [])],[.s (S [])],[.s (S [])],[.s (S [])],[.s (S [])],[.s (S [])],[.s (S [])],[.s (S [])],[.s (S [])],[.s (S [])]]))] :=
 lX nFQ nFQ (T := [aR 267 [⟨_,_,pE⟩,⟨_,_,aNX⟩],aR 133 [⟨_,_,kN⟩]]) (ne := []) (df := []) (F := 100000) (d := 60) (cs := []) hmx (by kernel_rfl) trivial
theorem xS : V.Spec Tryz.prog (Gl g) 202 [.c (cM 1 [[.s (S [])],[.s (S [])],[.s (S [])],[.s (S [])],[.s (S [])],[.s (S [])],[.s (S [])],[.s (S [])],[.s (S [])],[.s (S [])]]),.c (cM 1 [[.s (S [])],[.s (S [2])],[.s (S [])],[.s (S [])],[.s (S [])]])] [] (.c (.ar 100 0)) [(100,(.arr 0 225 1 [[.s (S [])],[.s (S [])],[.s (S [])],[.s (S [])],[.s (S [])],[.s (S [])],[.s (S [])],[.s (S [])],[.s (S [])],[.s (S [])]]))] :=
 lX nFQ nFQ (T := [aR 267 [⟨_,_,pD⟩,⟨_,_,pE⟩],aR 133 [⟨_,_,kN⟩]]) (ne := []) (df := []) (F := 100000) (d := 60) (cs := []) hmx (by kernel_rfl) trivial
theorem xR : V.Spec Tryz.prog (Gl g) 202 [.c (cM 1 [[.s (S [])],[.s (S [1])],[.s (S [])],[.s (S [])],[.s (S [])],[.s (S [])],[.s (S [])],[.s (S [])],[.s (S [])],[.s (S [])]]),.c (cM 1 [[.s (S [])],[.s (S [2])],[.s (S [])]])] [] (.c (.ar 100 0)) [(100,(.arr 0 225 1 [[.s (S [])],[.s (S [])],[.s (S [2])],[.s (S [])],[.s (S [])],[.s (S [])],[.s (S [])],[.s (S [])],[.s (S [])],[.s (S [])]]))] :=
 lX nFQ nFQ (T := [aR 267 [⟨_,_,pD⟩,⟨_,_,pE⟩,⟨_,_,aNW⟩,⟨_,_,aNX⟩],aR 133 [⟨_,_,kN⟩,⟨_,_,aGD⟩]]) (ne := []) (df := []) (F := 100000) (d := 60) (cs := []) hmx (by kernel_rfl) trivial
theorem xQ : V.Spec Tryz.prog (Gl g) 202 [.c (cM 1 [[.s (S [])],[.s (S [])],[.s (S [2])],[.s (S [])],[.s (S [])],[.s (S [])],[.s (S [])],[.s (S [])],[.s (S [])],[.s (S [])]]),.c (cM 1 [[.s (S [])],[.s (S [2])],[.s (S [])],[.s (S [])],[.s (S [])]])] [] (.c (.ar 100 0)) [(100,(.arr 0 225 1 [[.s (S [])],[.s (S [])],[.s (S [])],[.s (S [4])],[.s (S [])],[.s (S [])],[.s (S [])],[.s (S [])],[.s (S [])],[.s (S [])]]))] :=
 lX nFQ nFQ (T := [aR 267 [⟨_,_,pD⟩,⟨_,_,pE⟩,⟨_,_,aFH⟩,⟨_,_,aFI⟩],aR 133 [⟨_,_,kN⟩,⟨_,_,aA0⟩]]) (ne := []) (df := []) (F := 100000) (d := 60) (cs := []) hmx (by kernel_rfl) trivial
theorem xP : V.Spec Tryz.prog (Gl g) 202 [.c (cM 1 [[.s (S [])],[.s (S [1])],[.s (S [])],[.s (S [])],[.s (S [])],[.s (S [])],[.s (S [])],[.s (S [])],[.s (S [])],[.s (S [])]]),.c (cM 1 [[.s (S [])],[.s (S [2])],[.s (S [2])]])] [] (.c (.ar 100 0)) [(100,(.arr 0 225 1 [[.s (S [])],[.s (S [])],[.s (S [2])],[.s (S [2])],[.s (S [])],[.s (S [])],[.s (S [])],[.s (S [])],[.s (S [])],[.s (S [])]]))] :=
 lX nFQ nFQ (T := [aR 267 [⟨_,_,pD⟩,⟨_,_,aNW⟩],aR 133 [⟨_,_,kN⟩,⟨_,_,aGD⟩,⟨_,_,aQD⟩]]) (ne := []) (df := []) (F := 100000) (d := 60) (cs := []) hmx (by kernel_rfl) trivial
theorem xO : V.Spec Tryz.prog (Gl g) 202 [.c (cM 1 [[.s (S [])],[.s (S [])],[.s (S [2])],[.s (S [2])],[.s (S [])],[.s (S [])],[.s (S [])],[.s (S [])],[.s (S [])],[.s (S [])]]),.c (cM 1 [[.s (S [])],[.s (S [2])],[.s (S [2])],[.s (S [])],[.s (S [])]])] [] (.c (.ar 100 0)) [(100,(.arr 0 225 1 [[.s (S [])],[.s (S [])],[.s (S [])],[.s (S [4])],[.s (S [8])],[.s (S [4])],[.s (S [])],[.s (S [])],[.s (S [])],[.s (S [])]]))] :=
 lX nFQ nFQ (T := [aR 267 [⟨_,_,pD⟩,⟨_,_,pE⟩,⟨_,_,aFH⟩,⟨_,_,aFI⟩],aR 133 [⟨_,_,kN⟩,⟨_,_,aA0⟩,⟨_,_,aQC⟩,⟨_,_,ad_4_0⟩]]) (ne := []) (df := []) (F := 100000) (d := 60) (cs := []) hmx (by kernel_rfl) trivial
theorem xN : V.Spec Tryz.prog (Gl g) 202 [.c (cM 1 [[.s (S [])],[.s (S [])],[.s (S [2])],[.s (S [2])],[.s (S [])],[.s (S [])],[.s (S [])],[.s (S [])],[.s (S [])],[.s (S [])]]),.c (cM 1 [[.s (S [])],[.s (S [2])],[.s (S [2])],[.s (S [6])],[.s (S [])]])] [] (.c (.ar 100 0)) [(100,(.arr 0 225 1 [[.s (S [])],[.s (S [])],[.s (S [])],[.s (S [4])],[.s (S [8])],[.s (S [16])],[.s (S [12])],[.s (S [])],[.s (S [])],[.s (S [])]]))] :=
 lX nFQ nFQ (T := [aR 267 [⟨_,_,pD⟩,⟨_,_,mu_0_6⟩,⟨_,_,pE⟩,⟨_,_,aFH⟩,⟨_,_,mu_2_6⟩,⟨_,_,aFI⟩],aR 133 [⟨_,_,kN⟩,⟨_,_,aA0⟩,⟨_,_,ad_0_12⟩,⟨_,_,aQC⟩,⟨_,_,ad_12_4⟩,⟨_,_,ad_16_0⟩,⟨_,_,ad_12_0⟩]]) (ne := []) (df := []) (F := 100000) (d := 60) (cs := []) hmx (by kernel_rfl) trivial
theorem checkX : V.Spec Tryz.prog (Gl g) 84 [.agg g0C,.c (cM 3 fZ)] [] (.tup [(false,[cI 0]),(false,[cI 0])]) [] :=
 a8 nFQ nFQ (T := [aR 130 [⟨_,_,yL⟩],aR 131 [⟨_,_,gfit0⟩,⟨_,_,gfit1⟩,⟨_,_,gfit2⟩,⟨_,_,gfit3⟩,⟨_,_,gfit4⟩,⟨_,_,gfit5⟩,⟨_,_,gfit6⟩],aR 133 [⟨_,_,ad_0_1⟩,⟨_,_,ad_1_1⟩,⟨_,_,aQD⟩,⟨_,_,kN⟩,⟨_,_,aGD⟩,⟨_,_,aA0⟩,⟨_,_,ad_4_2⟩,⟨_,_,ad_0_8⟩,⟨_,_,ad_8_0⟩,⟨_,_,ad_2_2⟩,⟨_,_,ad_4_6⟩,⟨_,_,ad_10_8⟩],eLitsA 202 [⟨_,_,_,xT⟩,⟨_,_,_,xS⟩,⟨_,_,_,xR⟩,⟨_,_,_,xQ⟩,⟨_,_,_,xP⟩,⟨_,_,_,xO⟩,⟨_,_,_,xN⟩]]) (ne := []) (df := []) (F := 100000) (d := 60) (cs := []) hmx (by kernel_rfl) trivial
end Go.Proofs.YtclaplngjmgnoaaGreatDoor
