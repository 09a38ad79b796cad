/- Part 38 of the proof: texts T3c2. -/
import Derived.Test.YtdejnaokkdndeaaGreatDoorP37
set_option linter.all false
namespace Go.Proofs.YtdejnaokkdndeaaGreatDoor
open Go.RowKit Go.V
set_option maxRecDepth 1000000 in
theorem where20_ok (m : Int) (nu da bo : Nat → Cl) (lb : Nat → List UInt8) (tc tr : List (List D)) (hc : conj [RightOk [tabF ClK cols9L (rowsB nu da bo lb 2)], RightOk [(cellF ClN (txC [97]))], RightOk [tabF ClK cols9L (rowsB nu da bo lb 2)]]) : V.Spec Tryz.prog (Gl (gT m)) 16 (apI sWhere sCode [tabL ClK cols9L (rowsB nu da bo lb 2), ClN (txC [97])] nilS) [] (okO (tabL ClK cols9L [(rowB [97] (nu 0) (da 0) (bo 0) (lb 0))])) [] :=
 specX (fun _ => none) (mkT [646, 683, 720, 757, 794, 802] 0 0) (T := eTypes (tyT2 m) :: eSan :: eBaseT nilS :: eRightT :: eTabT :: eEqT :: T0) (ne := N0e) (df := D0e) (F := 100000) (d := 60) (cs := [RightOk [tabF ClK cols9L (rowsB nu da bo lb 2)], RightOk [(cellF ClN (txC [97]))], RightOk [tabF ClK cols9L (rowsB nu da bo lb 2)]]) hmix (by kernel_rfl) hc
set_option maxRecDepth 1000000 in
theorem where21_ok (m : Int) (nu da bo : Nat → Cl) (lb : Nat → List UInt8) (tc tr : List (List D)) (hc : conj [RightOk [tabF ClK cols9L (rowsB nu da bo lb 2)], RightOk [(cellF ClN (txC [98]))], RightOk [tabF ClK cols9L (rowsB nu da bo lb 2)]]) : V.Spec Tryz.prog (Gl (gT m)) 16 (apI sWhere sCode [tabL ClK cols9L (rowsB nu da bo lb 2), ClN (txC [98])] nilS) [] (okO (tabL ClK cols9L [(rowB [98] (nu 1) (da 1) (bo 1) (lb 1))])) [] :=
 specX (fun _ => none) (mkT [688, 725, 762, 799, 836, 844] 0 0) (T := eTypes (tyT2 m) :: eSan :: eBaseT nilS :: eRightT :: eTabT :: eEqT :: T0) (ne := N0e) (df := D0e) (F := 100000) (d := 60) (cs := [RightOk [tabF ClK cols9L (rowsB nu da bo lb 2)], RightOk [(cellF ClN (txC [98]))], RightOk [tabF ClK cols9L (rowsB nu da bo lb 2)]]) hmix (by kernel_rfl) hc
set_option maxRecDepth 1000000 in
theorem where22_ok (m : Int) (nu da bo : Nat → Cl) (lb : Nat → List UInt8) (tc tr : List (List D)) (hc : conj [RightOk [tabF ClK cols9L (rowsB nu da bo lb 2)], RightOk [(cellF ClN (txC [97, 98]))], RightOk [tabF ClK cols9L (rowsB nu da bo lb 2)]]) : V.Spec Tryz.prog (Gl (gT m)) 16 (apI sWhere sCode [tabL ClK cols9L (rowsB nu da bo lb 2), ClN (txC [97, 98])] nilS) [] (okO (tabZ cols9L)) [] :=
 specX (fun _ => none) (fun _ => none) (T := eTypes (tyT2 m) :: eSan :: eBaseT nilS :: eRightT :: eTabT :: eEqT :: T0) (ne := N0e) (df := D0e) (F := 100000) (d := 60) (cs := [RightOk [tabF ClK cols9L (rowsB nu da bo lb 2)], RightOk [(cellF ClN (txC [97, 98]))], RightOk [tabF ClK cols9L (rowsB nu da bo lb 2)]]) hmix (by kernel_rfl) hc
set_option maxRecDepth 1000000 in
theorem where23_ok (m : Int) (nu da bo : Nat → Cl) (lb : Nat → List UInt8) (tc tr : List (List D)) (hc : conj [RightOk [tabF ClK cols9L (rowsB nu da bo lb 2)], RightOk [(cellF ClN (txC [49, 50]))], RightOk [tabF ClK cols9L (rowsB nu da bo lb 2)]]) : V.Spec Tryz.prog (Gl (gT m)) 16 (apI sWhere sCode [tabL ClK cols9L (rowsB nu da bo lb 2), ClN (txC [49, 50])] nilS) [] (okO (tabZ cols9L)) [] :=
 specX (fun _ => none) (fun _ => none) (T := eTypes (tyT2 m) :: eSan :: eBaseT nilS :: eRightT :: eTabT :: eEqT :: T0) (ne := N0e) (df := D0e) (F := 100000) (d := 60) (cs := [RightOk [tabF ClK cols9L (rowsB nu da bo lb 2)], RightOk [(cellF ClN (txC [49, 50]))], RightOk [tabF ClK cols9L (rowsB nu da bo lb 2)]]) hmix (by kernel_rfl) hc
set_option maxRecDepth 1000000 in
theorem where24_ok (m : Int) (nu da bo : Nat → Cl) (lb : Nat → List UInt8) (tc tr : List (List D)) (hc : conj [RightOk [tabF ClK cols9L (rowsB nu da bo lb 2)], RightOk [(cellF ClN (txC [120]))], RightOk [tabF ClK cols9L (rowsB nu da bo lb 2)]]) : V.Spec Tryz.prog (Gl (gT m)) 16 (apI sWhere sCode [tabL ClK cols9L (rowsB nu da bo lb 2), ClN (txC [120])] nilS) [] (okO (tabZ cols9L)) [] :=
 specX (fun _ => none) (fun _ => none) (T := eTypes (tyT2 m) :: eSan :: eBaseT nilS :: eRightT :: eTabT :: eEqT :: T0) (ne := N0e) (df := D0e) (F := 100000) (d := 60) (cs := [RightOk [tabF ClK cols9L (rowsB nu da bo lb 2)], RightOk [(cellF ClN (txC [120]))], RightOk [tabF ClK cols9L (rowsB nu da bo lb 2)]]) hmix (by kernel_rfl) hc
end Go.Proofs.YtdejnaokkdndeaaGreatDoor
