/- Part 45 of the proof: texts S14. -/
import Derived.Test.YtfedkhjbkiillaaGreatDoorP42
import Derived.Test.YtfedkhjbkiillaaGreatDoorP43
import Derived.Test.YtfedkhjbkiillaaGreatDoorP44
set_option linter.all false
namespace Go.Proofs.YtfedkhjbkiillaaGreatDoor
open Go.RowKit Go.V
def sanityI : List SV := []
def sanityO : SV := .c (.d (.b true))
set_option maxRecDepth 1000000 in
theorem sanity14_lit (m : Int) : V.Spec Tryz.prog (Gl (gT m)) 11 sanityI [] sanityO [] :=
 specX (fun _ => none) (mkL [174, 441, 518, 789, 1065, 1311, 1746, 2383, 2752, 2819, 2911, 3009] []) (T := eLits 48 [⟨_, _, small_lit m⟩] :: eLits 34 [⟨_, _, all_lit m⟩] :: eLits 87 [⟨_, _, right_lit m⟩] :: eLits 77 [⟨_, _, col0_lit m⟩, ⟨_, _, col1_lit m⟩, ⟨_, _, concat_lit m⟩] :: eLits 24 [⟨_, _, fits1_lit m⟩, ⟨_, _, fits2_lit m⟩] :: eLits 41 [⟨_, _, cost_lit m⟩] :: eLits 38 [⟨_, _, quo_lit m⟩] :: T0) (ne := N0e) (df := []) (F := 100000) (d := 60) (cs := []) (by kernel_rfl) (by kernel_rfl) trivial
theorem sanity14 (m : Int) : V.Spec Tryz.prog (Gl (gT m)) 11 [] [] (.c (.d (.b true))) [] := sanity14_lit m
end Go.Proofs.YtfedkhjbkiillaaGreatDoor
