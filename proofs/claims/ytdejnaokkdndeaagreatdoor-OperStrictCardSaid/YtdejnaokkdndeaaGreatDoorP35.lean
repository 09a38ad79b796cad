/- Part 35 of the proof: texts K3. -/
import Derived.Test.YtdejnaokkdndeaaGreatDoorP34
set_option linter.all false
namespace Go.Proofs.YtdejnaokkdndeaaGreatDoor
open Go.RowKit Go.V
set_option maxRecDepth 1000000 in
theorem sanity_ok (m : Int) : V.Spec Tryz.prog (Gl (gT m)) 10 [] [] (.c (.d (.b true))) [] :=
 specX (fun _ => none) (fun _ => none) (T := eTypes (tyT m) :: eRightC :: eAddC :: eCmpC :: eOne _ _ _ (find_lit m) :: T0) (ne := N0e) (df := D0e) (F := 100000) (d := 60) (cs := [findIns = findIns]) (by kernel_rfl) (by kernel_rfl) rfl
end Go.Proofs.YtdejnaokkdndeaaGreatDoor
