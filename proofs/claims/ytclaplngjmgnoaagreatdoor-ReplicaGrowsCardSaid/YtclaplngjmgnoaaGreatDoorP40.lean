/- Part 40 of the proof. -/
import Derived.Test.YtclaplngjmgnoaaGreatDoorP32
import Derived.Test.YtclaplngjmgnoaaGreatDoorP34
set_option linter.all false
namespace Go.Proofs.YtclaplngjmgnoaaGreatDoor
set_option maxRecDepth 100000
open Go.RowKit Go.V
variable {g : Gv}
structure LitA (g : Gv) (f : FuncId) where
 ins : List SV
 out : SV
 post : aV
 ok : V.Spec Tryz.prog (Gl g) f ins [] out post
def yP {f : FuncId} : List (LitA g f) -> List SV -> Option (LitA g f)
 | [],_ => none
 | e :: r,ins => bif allEq aIZ e.ins ins then some e else yP r ins
theorem vS {f : FuncId} : ∀ {T : List (LitA g f)} {ins : List SV} {e : LitA g f},yP T ins = some e -> e.ins = ins
 | [],ins,e,h => by cases h
 | x :: r,ins,e,h => by
  unfold yP at h
  cases hb : allEq aIZ x.ins ins with
  | false => rw [hb] at h; exact vS h
  | true =>
   rw [hb] at h
   simp only [cond_true,oIQ] at h
   subst h
   exact iM (fun _ _ => aGN) hb
def eLitsA (f : FuncId) (T : List (LitA g f)) : Ent Tryz.prog (Gl g) where
 f := f
 ask := fun _ ins refs => match refs with
  | [] => match yP T ins with
   | some e => some (e.out,e.post,[])
   | none => none
  | _ => none
 ok := by
  intro k ins refs post out cs h _
  split at h
  split at h
  rename_i e he
  simp only [oIQ,pIQ] at h
  obtain ⟨rfl,rfl,_⟩ := h
  rw [<- vS he]
  exact e.ok
  cases h
  cases h
theorem xN : V.Spec Tryz.prog (Gl g) 202 [.c (cM 1 [[.s (S [])],[.s (S [1])],[.s (S [])],[.s (S [])],[.s (S [])],[.s (S [])],[.s (S [])],[.s (S [])],[.s (S [])],[.s (S [])]]),.c (cM 1 [[.s (S [])],[.s (S [])],[.s (S [])]])] [] (.c (.ar 100 0)) [(100,(.arr 0 225 1 [[.s (S [])],[.s (S [])],[.s (S [])],[.s (S [])],[.s (S [])],[.s (S [])],[.s (S [])],[.s (S [])],[.s (S [])],[.s (S [])]]))] :=
 lH nFQ nFQ (T := [aL 267 [⟨_,_,o6⟩,⟨_,_,aNS⟩],aL 133 [⟨_,_,j8⟩]]) (ne := []) (df := []) (F := 100000) (d := 60) (cs := []) hmx (by kernel_rfl) trivial
theorem xM : V.Spec Tryz.prog (Gl g) 202 [.c (cM 1 [[.s (S [])],[.s (S [])],[.s (S [])],[.s (S [])],[.s (S [])],[.s (S [])],[.s (S [])],[.s (S [])],[.s (S [])],[.s (S [])]]),.c (cM 1 [[.s (S [])],[.s (S [2])],[.s (S [])],[.s (S [])],[.s (S [])]])] [] (.c (.ar 100 0)) [(100,(.arr 0 225 1 [[.s (S [])],[.s (S [])],[.s (S [])],[.s (S [])],[.s (S [])],[.s (S [])],[.s (S [])],[.s (S [])],[.s (S [])],[.s (S [])]]))] :=
 lH nFQ nFQ (T := [aL 267 [⟨_,_,o5⟩,⟨_,_,o6⟩],aL 133 [⟨_,_,j8⟩]]) (ne := []) (df := []) (F := 100000) (d := 60) (cs := []) hmx (by kernel_rfl) trivial
theorem xL : V.Spec Tryz.prog (Gl g) 202 [.c (cM 1 [[.s (S [])],[.s (S [1])],[.s (S [])],[.s (S [])],[.s (S [])],[.s (S [])],[.s (S [])],[.s (S [])],[.s (S [])],[.s (S [])]]),.c (cM 1 [[.s (S [])],[.s (S [2])],[.s (S [])]])] [] (.c (.ar 100 0)) [(100,(.arr 0 225 1 [[.s (S [])],[.s (S [])],[.s (S [2])],[.s (S [])],[.s (S [])],[.s (S [])],[.s (S [])],[.s (S [])],[.s (S [])],[.s (S [])]]))] :=
 lH nFQ nFQ (T := [aL 267 [⟨_,_,o5⟩,⟨_,_,o6⟩,⟨_,_,aNR⟩,⟨_,_,aNS⟩],aL 133 [⟨_,_,j8⟩,⟨_,_,aGE⟩]]) (ne := []) (df := []) (F := 100000) (d := 60) (cs := []) hmx (by kernel_rfl) trivial
theorem xJ : V.Spec Tryz.prog (Gl g) 202 [.c (cM 1 [[.s (S [])],[.s (S [])],[.s (S [2])],[.s (S [])],[.s (S [])],[.s (S [])],[.s (S [])],[.s (S [])],[.s (S [])],[.s (S [])]]),.c (cM 1 [[.s (S [])],[.s (S [2])],[.s (S [])],[.s (S [])],[.s (S [])]])] [] (.c (.ar 100 0)) [(100,(.arr 0 225 1 [[.s (S [])],[.s (S [])],[.s (S [])],[.s (S [4])],[.s (S [])],[.s (S [])],[.s (S [])],[.s (S [])],[.s (S [])],[.s (S [])]]))] :=
 lH nFQ nFQ (T := [aL 267 [⟨_,_,o5⟩,⟨_,_,o6⟩,⟨_,_,aFJ⟩,⟨_,_,aFK⟩],aL 133 [⟨_,_,j8⟩,⟨_,_,aAN⟩]]) (ne := []) (df := []) (F := 100000) (d := 60) (cs := []) hmx (by kernel_rfl) trivial
theorem xI : V.Spec Tryz.prog (Gl g) 202 [.c (cM 1 [[.s (S [])],[.s (S [1])],[.s (S [])],[.s (S [])],[.s (S [])],[.s (S [])],[.s (S [])],[.s (S [])],[.s (S [])],[.s (S [])]]),.c (cM 1 [[.s (S [])],[.s (S [2])],[.s (S [2])]])] [] (.c (.ar 100 0)) [(100,(.arr 0 225 1 [[.s (S [])],[.s (S [])],[.s (S [2])],[.s (S [2])],[.s (S [])],[.s (S [])],[.s (S [])],[.s (S [])],[.s (S [])],[.s (S [])]]))] :=
 lH nFQ nFQ (T := [aL 267 [⟨_,_,o5⟩,⟨_,_,aNR⟩],aL 133 [⟨_,_,j8⟩,⟨_,_,aGE⟩,⟨_,_,aP9⟩]]) (ne := []) (df := []) (F := 100000) (d := 60) (cs := []) hmx (by kernel_rfl) trivial
theorem xH : V.Spec Tryz.prog (Gl g) 202 [.c (cM 1 [[.s (S [])],[.s (S [])],[.s (S [2])],[.s (S [2])],[.s (S [])],[.s (S [])],[.s (S [])],[.s (S [])],[.s (S [])],[.s (S [])]]),.c (cM 1 [[.s (S [])],[.s (S [2])],[.s (S [2])],[.s (S [])],[.s (S [])]])] [] (.c (.ar 100 0)) [(100,(.arr 0 225 1 [[.s (S [])],[.s (S [])],[.s (S [])],[.s (S [4])],[.s (S [8])],[.s (S [4])],[.s (S [])],[.s (S [])],[.s (S [])],[.s (S [])]]))] :=
 lH nFQ nFQ (T := [aL 267 [⟨_,_,o5⟩,⟨_,_,o6⟩,⟨_,_,aFJ⟩,⟨_,_,aFK⟩],aL 133 [⟨_,_,j8⟩,⟨_,_,aAN⟩,⟨_,_,aP8⟩,⟨_,_,ad_4_0⟩]]) (ne := []) (df := []) (F := 100000) (d := 60) (cs := []) hmx (by kernel_rfl) trivial
theorem xG : V.Spec Tryz.prog (Gl g) 202 [.c (cM 1 [[.s (S [])],[.s (S [])],[.s (S [2])],[.s (S [2])],[.s (S [])],[.s (S [])],[.s (S [])],[.s (S [])],[.s (S [])],[.s (S [])]]),.c (cM 1 [[.s (S [])],[.s (S [2])],[.s (S [2])],[.s (S [6])],[.s (S [])]])] [] (.c (.ar 100 0)) [(100,(.arr 0 225 1 [[.s (S [])],[.s (S [])],[.s (S [])],[.s (S [4])],[.s (S [8])],[.s (S [16])],[.s (S [12])],[.s (S [])],[.s (S [])],[.s (S [])]]))] :=
 lH nFQ nFQ (T := [aL 267 [⟨_,_,o5⟩,⟨_,_,mu_0_6⟩,⟨_,_,o6⟩,⟨_,_,aFJ⟩,⟨_,_,mu_2_6⟩,⟨_,_,aFK⟩],aL 133 [⟨_,_,j8⟩,⟨_,_,aAN⟩,⟨_,_,ad_0_12⟩,⟨_,_,aP8⟩,⟨_,_,ad_12_4⟩,⟨_,_,ad_16_0⟩,⟨_,_,ad_12_0⟩]]) (ne := []) (df := []) (F := 100000) (d := 60) (cs := []) hmx (by kernel_rfl) trivial
theorem checkX : V.Spec Tryz.prog (Gl g) 84 [.agg g0C,.c (cM 3 fM)] [] (.tup [(false,[cI 0]),(false,[cI 0])]) [] :=
 aS nFQ nFQ (T := [aL 130 [⟨_,_,yB⟩],aL 131 [⟨_,_,gfit0⟩,⟨_,_,gfit1⟩,⟨_,_,gfit2⟩,⟨_,_,gfit3⟩,⟨_,_,gfit4⟩,⟨_,_,gfit5⟩,⟨_,_,gfit6⟩],aL 133 [⟨_,_,ad_0_1⟩,⟨_,_,ad_1_1⟩,⟨_,_,aP9⟩,⟨_,_,j8⟩,⟨_,_,aGE⟩,⟨_,_,aAN⟩,⟨_,_,ad_4_2⟩,⟨_,_,ad_0_8⟩,⟨_,_,ad_8_0⟩,⟨_,_,ad_2_2⟩,⟨_,_,ad_4_6⟩,⟨_,_,ad_10_8⟩],eLitsA 202 [⟨_,_,_,xN⟩,⟨_,_,_,xM⟩,⟨_,_,_,xL⟩,⟨_,_,_,xJ⟩,⟨_,_,_,xI⟩,⟨_,_,_,xH⟩,⟨_,_,_,xG⟩]]) (ne := []) (df := []) (F := 100000) (d := 60) (cs := []) hmx (by kernel_rfl) trivial
end Go.Proofs.YtclaplngjmgnoaaGreatDoor
