/- Part 41 of the proof: texts V33s. -/
import Derived.Test.YtclaplngjmgnoaaGreatDoorP33
import Derived.Test.YtclaplngjmgnoaaGreatDoorP35
set_option linter.all false
namespace Go.Proofs.YtclaplngjmgnoaaGreatDoor
set_option maxRecDepth 100000
open Go.RowKit Go.V
variable {g : Gv}
structure LitA (g : Gv) (f : FuncId) where
 ins : List SV
 out : SV
 post : aZ
 ok : V.Spec Tryz.prog (Gl g) f ins [] out post
def w6 {f : FuncId} : List (LitA g f) -> List SV -> Option (LitA g f)
 | [], _ => none
 | e :: r, ins => bif allEq aGS e.ins ins then some e else w6 r ins
theorem t7 {f : FuncId} : ∀ {T : List (LitA g f)} {ins : List SV} {e : LitA g f}, w6 T ins = some e -> e.ins = ins
 | [], ins, e, h => by cases h
 | x :: r, ins, e, h => by
  unfold w6 at h
  cases hb : allEq aGS x.ins ins with
  | false => rw [hb] at h; exact t7 h
  | true =>
   rw [hb] at h
   simp only [cond_true, oIQ] at h
   subst h
   exact g7 (fun _ _ => aEI) hb
def eLitsA (f : FuncId) (T : List (LitA g f)) : Ent Tryz.prog (Gl g) where
 f := f
 ask := fun _ ins refs => match refs with
  | [] => match w6 T ins with
   | some e => some (e.out, e.post, [])
   | none => none
  | _ => none
 ok := by
  intro k ins refs post out cs h _
  split at h
  split at h
  rename_i e he
  simp only [oIQ, pIQ] at h
  obtain ⟨rfl, rfl, _⟩ := h
  rw [<- t7 he]
  exact e.ok
  cases h
  cases h
theorem vS : V.Spec Tryz.prog (Gl g) 202 [.c (cM 1 [[.s (S [])], [.s (S [1])], [.s (S [])], [.s (S [])], [.s (S [])], [.s (S [])], [.s (S [])], [.s (S [])], [.s (S [])], [.s (S [])]]), .c (cM 1 [[.s (S [])], [.s (S [])], [.s (S [])]])] [] (.c (.ar 100 0)) [(100, (.arr 0 225 1 [[.s (S [])], [.s (S [])], [.s (S [])], [.s (S [])], [.s (S [])], [.s (S [])], [.s (S [])], [.s (S [])], [.s (S [])], [.s (S [])]]))] :=
 kM nFQ nFQ (T := [aL 267 [⟨_, _, nP⟩, ⟨_, _, aLO⟩], aL 133 [⟨_, _, jL⟩]]) (ne := []) (df := []) (F := 100000) (d := 60) (cs := []) hmx (by kernel_rfl) trivial
theorem vR : V.Spec Tryz.prog (Gl g) 202 [.c (cM 1 [[.s (S [])], [.s (S [])], [.s (S [])], [.s (S [])], [.s (S [])], [.s (S [])], [.s (S [])], [.s (S [])], [.s (S [])], [.s (S [])]]), .c (cM 1 [[.s (S [])], [.s (S [2])], [.s (S [])], [.s (S [])], [.s (S [])]])] [] (.c (.ar 100 0)) [(100, (.arr 0 225 1 [[.s (S [])], [.s (S [])], [.s (S [])], [.s (S [])], [.s (S [])], [.s (S [])], [.s (S [])], [.s (S [])], [.s (S [])], [.s (S [])]]))] :=
 kM nFQ nFQ (T := [aL 267 [⟨_, _, nO⟩, ⟨_, _, nP⟩], aL 133 [⟨_, _, jL⟩]]) (ne := []) (df := []) (F := 100000) (d := 60) (cs := []) hmx (by kernel_rfl) trivial
theorem vQ : V.Spec Tryz.prog (Gl g) 202 [.c (cM 1 [[.s (S [])], [.s (S [1])], [.s (S [])], [.s (S [])], [.s (S [])], [.s (S [])], [.s (S [])], [.s (S [])], [.s (S [])], [.s (S [])]]), .c (cM 1 [[.s (S [])], [.s (S [2])], [.s (S [])]])] [] (.c (.ar 100 0)) [(100, (.arr 0 225 1 [[.s (S [])], [.s (S [])], [.s (S [2])], [.s (S [])], [.s (S [])], [.s (S [])], [.s (S [])], [.s (S [])], [.s (S [])], [.s (S [])]]))] :=
 kM nFQ nFQ (T := [aL 267 [⟨_, _, nO⟩, ⟨_, _, nP⟩, ⟨_, _, aLN⟩, ⟨_, _, aLO⟩], aL 133 [⟨_, _, jL⟩, ⟨_, _, aD9⟩]]) (ne := []) (df := []) (F := 100000) (d := 60) (cs := []) hmx (by kernel_rfl) trivial
theorem vP : V.Spec Tryz.prog (Gl g) 202 [.c (cM 1 [[.s (S [])], [.s (S [])], [.s (S [2])], [.s (S [])], [.s (S [])], [.s (S [])], [.s (S [])], [.s (S [])], [.s (S [])], [.s (S [])]]), .c (cM 1 [[.s (S [])], [.s (S [2])], [.s (S [])], [.s (S [])], [.s (S [])]])] [] (.c (.ar 100 0)) [(100, (.arr 0 225 1 [[.s (S [])], [.s (S [])], [.s (S [])], [.s (S [4])], [.s (S [])], [.s (S [])], [.s (S [])], [.s (S [])], [.s (S [])], [.s (S [])]]))] :=
 kM nFQ nFQ (T := [aL 267 [⟨_, _, nO⟩, ⟨_, _, nP⟩, ⟨_, _, aDH⟩, ⟨_, _, aDI⟩], aL 133 [⟨_, _, jL⟩, ⟨_, _, x9⟩]]) (ne := []) (df := []) (F := 100000) (d := 60) (cs := []) hmx (by kernel_rfl) trivial
theorem vO : V.Spec Tryz.prog (Gl g) 202 [.c (cM 1 [[.s (S [])], [.s (S [1])], [.s (S [])], [.s (S [])], [.s (S [])], [.s (S [])], [.s (S [])], [.s (S [])], [.s (S [])], [.s (S [])]]), .c (cM 1 [[.s (S [])], [.s (S [2])], [.s (S [2])]])] [] (.c (.ar 100 0)) [(100, (.arr 0 225 1 [[.s (S [])], [.s (S [])], [.s (S [2])], [.s (S [2])], [.s (S [])], [.s (S [])], [.s (S [])], [.s (S [])], [.s (S [])], [.s (S [])]]))] :=
 kM nFQ nFQ (T := [aL 267 [⟨_, _, nO⟩, ⟨_, _, aLN⟩], aL 133 [⟨_, _, jL⟩, ⟨_, _, aD9⟩, ⟨_, _, aN2⟩]]) (ne := []) (df := []) (F := 100000) (d := 60) (cs := []) hmx (by kernel_rfl) trivial
theorem vN : V.Spec Tryz.prog (Gl g) 202 [.c (cM 1 [[.s (S [])], [.s (S [])], [.s (S [2])], [.s (S [2])], [.s (S [])], [.s (S [])], [.s (S [])], [.s (S [])], [.s (S [])], [.s (S [])]]), .c (cM 1 [[.s (S [])], [.s (S [2])], [.s (S [2])], [.s (S [])], [.s (S [])]])] [] (.c (.ar 100 0)) [(100, (.arr 0 225 1 [[.s (S [])], [.s (S [])], [.s (S [])], [.s (S [4])], [.s (S [8])], [.s (S [4])], [.s (S [])], [.s (S [])], [.s (S [])], [.s (S [])]]))] :=
 kM nFQ nFQ (T := [aL 267 [⟨_, _, nO⟩, ⟨_, _, nP⟩, ⟨_, _, aDH⟩, ⟨_, _, aDI⟩], aL 133 [⟨_, _, jL⟩, ⟨_, _, x9⟩, ⟨_, _, aN1⟩, ⟨_, _, ad_4_0⟩]]) (ne := []) (df := []) (F := 100000) (d := 60) (cs := []) hmx (by kernel_rfl) trivial
theorem vM : V.Spec Tryz.prog (Gl g) 202 [.c (cM 1 [[.s (S [])], [.s (S [])], [.s (S [2])], [.s (S [2])], [.s (S [])], [.s (S [])], [.s (S [])], [.s (S [])], [.s (S [])], [.s (S [])]]), .c (cM 1 [[.s (S [])], [.s (S [2])], [.s (S [2])], [.s (S [6])], [.s (S [])]])] [] (.c (.ar 100 0)) [(100, (.arr 0 225 1 [[.s (S [])], [.s (S [])], [.s (S [])], [.s (S [4])], [.s (S [8])], [.s (S [16])], [.s (S [12])], [.s (S [])], [.s (S [])], [.s (S [])]]))] :=
 kM nFQ nFQ (T := [aL 267 [⟨_, _, nO⟩, ⟨_, _, mu_0_6⟩, ⟨_, _, nP⟩, ⟨_, _, aDH⟩, ⟨_, _, mu_2_6⟩, ⟨_, _, aDI⟩], aL 133 [⟨_, _, jL⟩, ⟨_, _, x9⟩, ⟨_, _, ad_0_12⟩, ⟨_, _, aN1⟩, ⟨_, _, ad_12_4⟩, ⟨_, _, ad_16_0⟩, ⟨_, _, ad_12_0⟩]]) (ne := []) (df := []) (F := 100000) (d := 60) (cs := []) hmx (by kernel_rfl) trivial
theorem checkX : V.Spec Tryz.prog (Gl g) 84 [.agg g0C, .c (cM 3 fA)] [] (.tup [(false, [cI 0]), (false, [cI 0])]) [] :=
 aU nFQ nFQ (T := [aL 130 [⟨_, _, wL⟩], aL 131 [⟨_, _, gfit0⟩, ⟨_, _, gfit1⟩, ⟨_, _, gfit2⟩, ⟨_, _, gfit3⟩, ⟨_, _, gfit4⟩, ⟨_, _, gfit5⟩, ⟨_, _, gfit6⟩], aL 133 [⟨_, _, ad_0_1⟩, ⟨_, _, ad_1_1⟩, ⟨_, _, aN2⟩, ⟨_, _, jL⟩, ⟨_, _, aD9⟩, ⟨_, _, x9⟩, ⟨_, _, ad_4_2⟩, ⟨_, _, ad_0_8⟩, ⟨_, _, ad_8_0⟩, ⟨_, _, ad_2_2⟩, ⟨_, _, ad_4_6⟩, ⟨_, _, ad_10_8⟩], eLitsA 202 [⟨_, _, _, vS⟩, ⟨_, _, _, vR⟩, ⟨_, _, _, vQ⟩, ⟨_, _, _, vP⟩, ⟨_, _, _, vO⟩, ⟨_, _, _, vN⟩, ⟨_, _, _, vM⟩]]) (ne := []) (df := []) (F := 100000) (d := 60) (cs := []) hmx (by kernel_rfl) trivial
end Go.Proofs.YtclaplngjmgnoaaGreatDoor
