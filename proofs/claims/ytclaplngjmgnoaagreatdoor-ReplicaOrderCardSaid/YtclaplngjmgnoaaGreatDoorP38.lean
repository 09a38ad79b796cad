/- Part 38 of the proof: texts V33s. -/
import Derived.Test.YtclaplngjmgnoaaGreatDoorP32
set_option linter.all false
namespace Go.Proofs.YtclaplngjmgnoaaGreatDoor
set_option maxRecDepth 100000
open Go.RowKit Go.V
variable {g : Gv}
structure LitA (g : Gv) (f : FuncId) where
 ins : List SV
 out : SV
 post : aV
 ok : V.Spec Tryz.prog (Gl g) f ins [] out post
def xI {f : FuncId} : List (LitA g f) -> List SV -> Option (LitA g f)
 | [], _ => none
 | e :: r, ins => bif allEq aG5 e.ins ins then some e else xI r ins
theorem uH {f : FuncId} : ∀ {T : List (LitA g f)} {ins : List SV} {e : LitA g f}, xI T ins = some e -> e.ins = ins
 | [], ins, e, h => by cases h
 | x :: r, ins, e, h => by
  unfold xI at h
  cases hb : allEq aG5 x.ins ins with
  | false => rw [hb] at h; exact uH h
  | true =>
   rw [hb] at h
   simp only [cond_true, oIQ] at h
   subst h
   exact hJ (fun _ _ => aEU) hb
def eLitsA (f : FuncId) (T : List (LitA g f)) : Ent Tryz.prog (Gl g) where
 f := f
 ask := fun _ ins refs => match refs with
  | [] => match xI T ins with
   | some e => some (e.out, e.post, [])
   | none => none
  | _ => none
 ok := by
  intro k ins refs post out cs h _
  split at h
  split at h
  rename_i e he
  simp only [oIQ, pIQ] at h
  obtain ⟨rfl, rfl, _⟩ := h
  rw [<- uH he]
  exact e.ok
  cases h
  cases h
theorem wB : V.Spec Tryz.prog (Gl g) 202 [.c (cM 1 [[.s (S [])], [.s (S [1])], [.s (S [])], [.s (S [])], [.s (S [])], [.s (S [])], [.s (S [])], [.s (S [])], [.s (S [])], [.s (S [])]]), .c (cM 1 [[.s (S [])], [.s (S [])], [.s (S [])]])] [] (.c (.ar 100 0)) [(100, (.arr 0 225 1 [[.s (S [])], [.s (S [])], [.s (S [])], [.s (S [])], [.s (S [])], [.s (S [])], [.s (S [])], [.s (S [])], [.s (S [])], [.s (S [])]]))] :=
 kO nFQ nFQ (T := [aK 267 [⟨_, _, oB⟩, ⟨_, _, aLY⟩], aK 133 [⟨_, _, jM⟩]]) (ne := []) (df := []) (F := 100000) (d := 60) (cs := []) hmx (by kernel_rfl) trivial
theorem v8 : V.Spec Tryz.prog (Gl g) 202 [.c (cM 1 [[.s (S [])], [.s (S [])], [.s (S [])], [.s (S [])], [.s (S [])], [.s (S [])], [.s (S [])], [.s (S [])], [.s (S [])], [.s (S [])]]), .c (cM 1 [[.s (S [])], [.s (S [2])], [.s (S [])], [.s (S [])], [.s (S [])]])] [] (.c (.ar 100 0)) [(100, (.arr 0 225 1 [[.s (S [])], [.s (S [])], [.s (S [])], [.s (S [])], [.s (S [])], [.s (S [])], [.s (S [])], [.s (S [])], [.s (S [])], [.s (S [])]]))] :=
 kO nFQ nFQ (T := [aK 267 [⟨_, _, oA⟩, ⟨_, _, oB⟩], aK 133 [⟨_, _, jM⟩]]) (ne := []) (df := []) (F := 100000) (d := 60) (cs := []) hmx (by kernel_rfl) trivial
theorem v7 : V.Spec Tryz.prog (Gl g) 202 [.c (cM 1 [[.s (S [])], [.s (S [1])], [.s (S [])], [.s (S [])], [.s (S [])], [.s (S [])], [.s (S [])], [.s (S [])], [.s (S [])], [.s (S [])]]), .c (cM 1 [[.s (S [])], [.s (S [2])], [.s (S [])]])] [] (.c (.ar 100 0)) [(100, (.arr 0 225 1 [[.s (S [])], [.s (S [])], [.s (S [2])], [.s (S [])], [.s (S [])], [.s (S [])], [.s (S [])], [.s (S [])], [.s (S [])], [.s (S [])]]))] :=
 kO nFQ nFQ (T := [aK 267 [⟨_, _, oA⟩, ⟨_, _, oB⟩, ⟨_, _, aLX⟩, ⟨_, _, aLY⟩], aK 133 [⟨_, _, jM⟩, ⟨_, _, aEM⟩]]) (ne := []) (df := []) (F := 100000) (d := 60) (cs := []) hmx (by kernel_rfl) trivial
theorem v6 : V.Spec Tryz.prog (Gl g) 202 [.c (cM 1 [[.s (S [])], [.s (S [])], [.s (S [2])], [.s (S [])], [.s (S [])], [.s (S [])], [.s (S [])], [.s (S [])], [.s (S [])], [.s (S [])]]), .c (cM 1 [[.s (S [])], [.s (S [2])], [.s (S [])], [.s (S [])], [.s (S [])]])] [] (.c (.ar 100 0)) [(100, (.arr 0 225 1 [[.s (S [])], [.s (S [])], [.s (S [])], [.s (S [4])], [.s (S [])], [.s (S [])], [.s (S [])], [.s (S [])], [.s (S [])], [.s (S [])]]))] :=
 kO nFQ nFQ (T := [aK 267 [⟨_, _, oA⟩, ⟨_, _, oB⟩, ⟨_, _, aDS⟩, ⟨_, _, aDT⟩], aK 133 [⟨_, _, jM⟩, ⟨_, _, yM⟩]]) (ne := []) (df := []) (F := 100000) (d := 60) (cs := []) hmx (by kernel_rfl) trivial
theorem vZ : V.Spec Tryz.prog (Gl g) 202 [.c (cM 1 [[.s (S [])], [.s (S [1])], [.s (S [])], [.s (S [])], [.s (S [])], [.s (S [])], [.s (S [])], [.s (S [])], [.s (S [])], [.s (S [])]]), .c (cM 1 [[.s (S [])], [.s (S [2])], [.s (S [2])]])] [] (.c (.ar 100 0)) [(100, (.arr 0 225 1 [[.s (S [])], [.s (S [])], [.s (S [2])], [.s (S [2])], [.s (S [])], [.s (S [])], [.s (S [])], [.s (S [])], [.s (S [])], [.s (S [])]]))] :=
 kO nFQ nFQ (T := [aK 267 [⟨_, _, oA⟩, ⟨_, _, aLX⟩], aK 133 [⟨_, _, jM⟩, ⟨_, _, aEM⟩, ⟨_, _, aOF⟩]]) (ne := []) (df := []) (F := 100000) (d := 60) (cs := []) hmx (by kernel_rfl) trivial
theorem vY : V.Spec Tryz.prog (Gl g) 202 [.c (cM 1 [[.s (S [])], [.s (S [])], [.s (S [2])], [.s (S [2])], [.s (S [])], [.s (S [])], [.s (S [])], [.s (S [])], [.s (S [])], [.s (S [])]]), .c (cM 1 [[.s (S [])], [.s (S [2])], [.s (S [2])], [.s (S [])], [.s (S [])]])] [] (.c (.ar 100 0)) [(100, (.arr 0 225 1 [[.s (S [])], [.s (S [])], [.s (S [])], [.s (S [4])], [.s (S [8])], [.s (S [4])], [.s (S [])], [.s (S [])], [.s (S [])], [.s (S [])]]))] :=
 kO nFQ nFQ (T := [aK 267 [⟨_, _, oA⟩, ⟨_, _, oB⟩, ⟨_, _, aDS⟩, ⟨_, _, aDT⟩], aK 133 [⟨_, _, jM⟩, ⟨_, _, yM⟩, ⟨_, _, aOE⟩, ⟨_, _, ad_4_0⟩]]) (ne := []) (df := []) (F := 100000) (d := 60) (cs := []) hmx (by kernel_rfl) trivial
theorem vX : V.Spec Tryz.prog (Gl g) 202 [.c (cM 1 [[.s (S [])], [.s (S [])], [.s (S [2])], [.s (S [2])], [.s (S [])], [.s (S [])], [.s (S [])], [.s (S [])], [.s (S [])], [.s (S [])]]), .c (cM 1 [[.s (S [])], [.s (S [2])], [.s (S [2])], [.s (S [6])], [.s (S [])]])] [] (.c (.ar 100 0)) [(100, (.arr 0 225 1 [[.s (S [])], [.s (S [])], [.s (S [])], [.s (S [4])], [.s (S [8])], [.s (S [16])], [.s (S [12])], [.s (S [])], [.s (S [])], [.s (S [])]]))] :=
 kO nFQ nFQ (T := [aK 267 [⟨_, _, oA⟩, ⟨_, _, mu_0_6⟩, ⟨_, _, oB⟩, ⟨_, _, aDS⟩, ⟨_, _, mu_2_6⟩, ⟨_, _, aDT⟩], aK 133 [⟨_, _, jM⟩, ⟨_, _, yM⟩, ⟨_, _, ad_0_12⟩, ⟨_, _, aOE⟩, ⟨_, _, ad_12_4⟩, ⟨_, _, ad_16_0⟩, ⟨_, _, ad_12_0⟩]]) (ne := []) (df := []) (F := 100000) (d := 60) (cs := []) hmx (by kernel_rfl) trivial
theorem checkX : V.Spec Tryz.prog (Gl g) 84 [.agg g0C, .c (cM 3 fF)] [] (.tup [(false, [cI 0]), (false, [cI 0])]) [] :=
 aU nFQ nFQ (T := [aK 130 [⟨_, _, wY⟩], aK 131 [⟨_, _, gfit0⟩, ⟨_, _, gfit1⟩, ⟨_, _, gfit2⟩, ⟨_, _, gfit3⟩, ⟨_, _, gfit4⟩, ⟨_, _, gfit5⟩, ⟨_, _, gfit6⟩], aK 133 [⟨_, _, ad_0_1⟩, ⟨_, _, ad_1_1⟩, ⟨_, _, aOF⟩, ⟨_, _, jM⟩, ⟨_, _, aEM⟩, ⟨_, _, yM⟩, ⟨_, _, ad_4_2⟩, ⟨_, _, ad_0_8⟩, ⟨_, _, ad_8_0⟩, ⟨_, _, ad_2_2⟩, ⟨_, _, ad_4_6⟩, ⟨_, _, ad_10_8⟩], eLitsA 202 [⟨_, _, _, wB⟩, ⟨_, _, _, v8⟩, ⟨_, _, _, v7⟩, ⟨_, _, _, v6⟩, ⟨_, _, _, vZ⟩, ⟨_, _, _, vY⟩, ⟨_, _, _, vX⟩]]) (ne := []) (df := []) (F := 100000) (d := 60) (cs := []) hmx (by kernel_rfl) trivial
end Go.Proofs.YtclaplngjmgnoaaGreatDoor
