/- Part 37 of the proof: texts T3a, T3b. -/
import Derived.Test.YtdejnaokkdndeaaGreatDoorP36
set_option linter.all false
namespace Go.Proofs.YtdejnaokkdndeaaGreatDoor
open Go.RowKit Go.V
set_option maxRecDepth 1000000 in
theorem ty_where_ok (m : Int)  (hc : conj []) : V.Spec Tryz.prog (Gl (gT m)) 15 (tyIns sWhere sCode) [] (tyOut (.sl 1 [[.i 5], [.i 1]]) 5 0) [] :=
 specX (fun _ => none) (fun _ => none) (T := eSan :: eBaseT nilS :: eRightT :: eTabT :: eEqT :: T0) (ne := N0e) (df := D0e) (F := 100000) (d := 60) (cs := []) hmix (by kernel_rfl) hc
set_option maxRecDepth 1000000 in
theorem ty_pick_ok (m : Int)  (hc : conj []) : V.Spec Tryz.prog (Gl (gT m)) 15 (tyIns sPick sLC) [] (tyOut (.sl 1 [[.i 5]]) 5 0) [] :=
 specX (fun _ => none) (mkT [350, 356] 0 0) (T := eSan :: eBaseT nilS :: eRightT :: eTabT :: eEqT :: T0) (ne := N0e) (df := D0e) (F := 100000) (d := 60) (cs := []) hmix (by kernel_rfl) hc
set_option maxRecDepth 1000000 in
theorem ty_count_ok (m : Int)  (hc : conj []) : V.Spec Tryz.prog (Gl (gT m)) 15 (tyIns sCount []) [] (tyOut (.sl 1 [[.i 5]]) 2 0) [] :=
 specX (fun _ => none) (fun _ => none) (T := eSan :: eBaseT nilS :: eRightT :: eTabT :: eEqT :: T0) (ne := N0e) (df := D0e) (F := 100000) (d := 60) (cs := []) hmix (by kernel_rfl) hc
set_option maxRecDepth 1000000 in
theorem ty_first_ok (m : Int)  (hc : conj []) : V.Spec Tryz.prog (Gl (gT m)) 15 (tyIns sFirst sLT) [] (tyOut (.sl 1 [[.i 5]]) 1 0) [] :=
 specX (fun _ => none) (fun _ => none) (T := eSan :: eBaseT nilS :: eRightT :: eTabT :: eEqT :: T0) (ne := N0e) (df := D0e) (F := 100000) (d := 60) (cs := []) hmix (by kernel_rfl) hc
def tyT2 (m : Int) : List (TyE m) := [⟨_, _, _, ty_where_ok m trivial⟩, ⟨_, _, _, ty_pick_ok m trivial⟩, ⟨_, _, _, ty_count_ok m trivial⟩, ⟨_, _, _, ty_first_ok m trivial⟩]
end Go.Proofs.YtdejnaokkdndeaaGreatDoor
namespace Go.Proofs.YtdejnaokkdndeaaGreatDoor
open Go.RowKit Go.V
set_option maxRecDepth 1000000 in
theorem table2_ok (m : Int) (nu da bo : Nat → Cl) (lb : Nat → List UInt8) (tc tr : List (List D)) (hc : conj [TabOk [lookF ClN ratesN cols9L (rowsB nu da bo lb 2)], TabOk [lookF ClN ratesN cols9L (rowsB nu da bo lb 2)]]) : V.Spec Tryz.prog (Gl (gT m)) 16 (iTable (baseB (rowsB nu da bo lb 2) tc tr)) [] (okO (tabL ClK cols9L (rowsB nu da bo lb 2))) [] :=
 specX (fun _ => none) (mkT [900, 937, 974, 1011, 1048, 1056, 1104, 1141, 1178, 1215, 1252, 1260] 0 0) (T := eTypes (tyT2 m) :: eSan :: eBaseT (baseB (rowsB nu da bo lb 2) tc tr) :: eRightT :: eTabT :: eEqT :: T0) (ne := N0e) (df := D0e) (F := 100000) (d := 60) (cs := [TabOk [lookF ClN ratesN cols9L (rowsB nu da bo lb 2)], TabOk [lookF ClN ratesN cols9L (rowsB nu da bo lb 2)]]) hmix (by kernel_rfl) hc
set_option maxRecDepth 1000000 in
theorem pick2_ok (m : Int) (nu da bo : Nat → Cl) (lb : Nat → List UInt8) (tc tr : List (List D)) (hc : conj [RightOk [tabF ClK cols9L (rowsB nu da bo lb 2)], RightOk [tabF ClK cols9L (rowsB nu da bo lb 2)]]) : V.Spec Tryz.prog (Gl (gT m)) 16 (apI sPick sLC [tabL ClK cols9L (rowsB nu da bo lb 2)] nilS) [] (okO (tabL ClK lcL (pickB (rowsB nu da bo lb 2)))) [] :=
 specX (fun _ => none) (mkT [431, 436, 676, 715, 724, 775, 814, 823] 0 0) (T := eTypes (tyT2 m) :: eSan :: eBaseT nilS :: eRightT :: eTabT :: eEqT :: T0) (ne := N0e) (df := D0e) (F := 100000) (d := 60) (cs := [RightOk [tabF ClK cols9L (rowsB nu da bo lb 2)], RightOk [tabF ClK cols9L (rowsB nu da bo lb 2)]]) hmix (by kernel_rfl) hc
set_option maxRecDepth 1000000 in
theorem countP2_ok (m : Int) (nu da bo : Nat → Cl) (lb : Nat → List UInt8) (tc tr : List (List D)) (hc : conj [RightOk [tabF ClK lcL (pickB (rowsB nu da bo lb 2))]]) : V.Spec Tryz.prog (Gl (gT m)) 16 (apI sCount [] [tabL ClK lcL (pickB (rowsB nu da bo lb 2))] nilS) [] (okO (ClN (nuC 2))) [] :=
 specX (fun _ => none) (fun _ => none) (T := eTypes (tyT2 m) :: eSan :: eBaseT nilS :: eRightT :: eTabT :: eEqT :: T0) (ne := N0e) (df := D0e) (F := 100000) (d := 60) (cs := [RightOk [tabF ClK lcL (pickB (rowsB nu da bo lb 2))]]) hmix (by kernel_rfl) hc
set_option maxRecDepth 1000000 in
theorem table3_ok (m : Int) (nu da bo : Nat → Cl) (lb : Nat → List UInt8) (tc tr : List (List D)) (hc : conj [TabOk [lookF ClN ratesN cols9L (rowsB nu da bo lb 3)], TabOk [lookF ClN ratesN cols9L (rowsB nu da bo lb 3)]]) : V.Spec Tryz.prog (Gl (gT m)) 16 (iTable (baseB (rowsB nu da bo lb 3) tc tr)) [] (okO (tabL ClK cols9L (rowsB nu da bo lb 3))) [] :=
 specX (fun _ => none) (mkT [900, 937, 974, 1011, 1048, 1056, 1104, 1141, 1178, 1215, 1252, 1260, 1308, 1345, 1382, 1419, 1456, 1464] 0 0) (T := eTypes (tyT2 m) :: eSan :: eBaseT (baseB (rowsB nu da bo lb 3) tc tr) :: eRightT :: eTabT :: eEqT :: T0) (ne := N0e) (df := D0e) (F := 100000) (d := 60) (cs := [TabOk [lookF ClN ratesN cols9L (rowsB nu da bo lb 3)], TabOk [lookF ClN ratesN cols9L (rowsB nu da bo lb 3)]]) hmix (by kernel_rfl) hc
set_option maxRecDepth 1000000 in
theorem pick3_ok (m : Int) (nu da bo : Nat → Cl) (lb : Nat → List UInt8) (tc tr : List (List D)) (hc : conj [RightOk [tabF ClK cols9L (rowsB nu da bo lb 3)], RightOk [tabF ClK cols9L (rowsB nu da bo lb 3)]]) : V.Spec Tryz.prog (Gl (gT m)) 16 (apI sPick sLC [tabL ClK cols9L (rowsB nu da bo lb 3)] nilS) [] (okO (tabL ClK lcL (pickB (rowsB nu da bo lb 3)))) [] :=
 specX (fun _ => none) (mkT [431, 436, 676, 715, 724, 775, 814, 823, 874, 913, 922] 0 0) (T := eTypes (tyT2 m) :: eSan :: eBaseT nilS :: eRightT :: eTabT :: eEqT :: T0) (ne := N0e) (df := D0e) (F := 100000) (d := 60) (cs := [RightOk [tabF ClK cols9L (rowsB nu da bo lb 3)], RightOk [tabF ClK cols9L (rowsB nu da bo lb 3)]]) hmix (by kernel_rfl) hc
set_option maxRecDepth 1000000 in
theorem countP3_ok (m : Int) (nu da bo : Nat → Cl) (lb : Nat → List UInt8) (tc tr : List (List D)) (hc : conj [RightOk [tabF ClK lcL (pickB (rowsB nu da bo lb 3))]]) : V.Spec Tryz.prog (Gl (gT m)) 16 (apI sCount [] [tabL ClK lcL (pickB (rowsB nu da bo lb 3))] nilS) [] (okO (ClN (nuC 3))) [] :=
 specX (fun _ => none) (fun _ => none) (T := eTypes (tyT2 m) :: eSan :: eBaseT nilS :: eRightT :: eTabT :: eEqT :: T0) (ne := N0e) (df := D0e) (F := 100000) (d := 60) (cs := [RightOk [tabF ClK lcL (pickB (rowsB nu da bo lb 3))]]) hmix (by kernel_rfl) hc
set_option maxRecDepth 1000000 in
theorem table4_ok (m : Int) (nu da bo : Nat → Cl) (lb : Nat → List UInt8) (tc tr : List (List D)) (hc : conj [TabOk [lookF ClN ratesN cols9L (rowsB nu da bo lb 4)], TabOk [lookF ClN ratesN cols9L (rowsB nu da bo lb 4)]]) : V.Spec Tryz.prog (Gl (gT m)) 16 (iTable (baseB (rowsB nu da bo lb 4) tc tr)) [] (okO (tabL ClK cols9L (rowsB nu da bo lb 4))) [] :=
 specX (fun _ => none) (mkT [900, 937, 974, 1011, 1048, 1056, 1104, 1141, 1178, 1215, 1252, 1260, 1308, 1345, 1382, 1419, 1456, 1464, 1512, 1549, 1586, 1623, 1660, 1668] 0 0) (T := eTypes (tyT2 m) :: eSan :: eBaseT (baseB (rowsB nu da bo lb 4) tc tr) :: eRightT :: eTabT :: eEqT :: T0) (ne := N0e) (df := D0e) (F := 100000) (d := 60) (cs := [TabOk [lookF ClN ratesN cols9L (rowsB nu da bo lb 4)], TabOk [lookF ClN ratesN cols9L (rowsB nu da bo lb 4)]]) hmix (by kernel_rfl) hc
set_option maxRecDepth 1000000 in
theorem pick4_ok (m : Int) (nu da bo : Nat → Cl) (lb : Nat → List UInt8) (tc tr : List (List D)) (hc : conj [RightOk [tabF ClK cols9L (rowsB nu da bo lb 4)], RightOk [tabF ClK cols9L (rowsB nu da bo lb 4)]]) : V.Spec Tryz.prog (Gl (gT m)) 16 (apI sPick sLC [tabL ClK cols9L (rowsB nu da bo lb 4)] nilS) [] (okO (tabL ClK lcL (pickB (rowsB nu da bo lb 4)))) [] :=
 specX (fun _ => none) (mkT [431, 436, 676, 715, 724, 775, 814, 823, 874, 913, 922, 973, 1012, 1021] 0 0) (T := eTypes (tyT2 m) :: eSan :: eBaseT nilS :: eRightT :: eTabT :: eEqT :: T0) (ne := N0e) (df := D0e) (F := 100000) (d := 60) (cs := [RightOk [tabF ClK cols9L (rowsB nu da bo lb 4)], RightOk [tabF ClK cols9L (rowsB nu da bo lb 4)]]) hmix (by kernel_rfl) hc
set_option maxRecDepth 1000000 in
theorem countP4_ok (m : Int) (nu da bo : Nat → Cl) (lb : Nat → List UInt8) (tc tr : List (List D)) (hc : conj [RightOk [tabF ClK lcL (pickB (rowsB nu da bo lb 4))]]) : V.Spec Tryz.prog (Gl (gT m)) 16 (apI sCount [] [tabL ClK lcL (pickB (rowsB nu da bo lb 4))] nilS) [] (okO (ClN (nuC 4))) [] :=
 specX (fun _ => none) (fun _ => none) (T := eTypes (tyT2 m) :: eSan :: eBaseT nilS :: eRightT :: eTabT :: eEqT :: T0) (ne := N0e) (df := D0e) (F := 100000) (d := 60) (cs := [RightOk [tabF ClK lcL (pickB (rowsB nu da bo lb 4))]]) hmix (by kernel_rfl) hc
set_option maxRecDepth 1000000 in
theorem countW_ok (m : Int) (cd t : List UInt8) (a b c : Cl) (hc : conj [RightOk [tabF ClK cols9L [(rowB cd a b c t)]]]) : V.Spec Tryz.prog (Gl (gT m)) 16 (apI sCount [] [tabL ClK cols9L [(rowB cd a b c t)]] nilS) [] (okO (ClN (nuC 1))) [] :=
 specX (fun _ => none) (fun _ => none) (T := eTypes (tyT2 m) :: eSan :: eBaseT nilS :: eRightT :: eTabT :: eEqT :: T0) (ne := N0e) (df := D0e) (F := 100000) (d := 60) (cs := [RightOk [tabF ClK cols9L [(rowB cd a b c t)]]]) hmix (by kernel_rfl) hc
set_option maxRecDepth 1000000 in
theorem countZ_ok (m : Int)  (hc : conj [RightOk [(.agg ((tabZ cols9L).map .d))]]) : V.Spec Tryz.prog (Gl (gT m)) 16 (apI sCount [] [tabZ cols9L] nilS) [] (okO (ClN (nuC 0))) [] :=
 specX (fun _ => none) (fun _ => none) (T := eTypes (tyT2 m) :: eSan :: eBaseT nilS :: eRightT :: eTabT :: eEqT :: T0) (ne := N0e) (df := D0e) (F := 100000) (d := 60) (cs := [RightOk [(.agg ((tabZ cols9L).map .d))]]) hmix (by kernel_rfl) hc
set_option maxRecDepth 1000000 in
theorem firstW_ok (m : Int) (cd t : List UInt8) (a b c : Cl) (hc : conj [RightOk [tabF ClK cols9L [(rowB cd a b c t)]]]) : V.Spec Tryz.prog (Gl (gT m)) 16 (apI sFirst sLT [tabL ClK cols9L [(rowB cd a b c t)]] nilS) [] (okO (ClK (txC t))) [] :=
 specX (fun _ => none) (fun _ => none) (T := eTypes (tyT2 m) :: eSan :: eBaseT nilS :: eRightT :: eTabT :: eEqT :: T0) (ne := N0e) (df := D0e) (F := 100000) (d := 60) (cs := [RightOk [tabF ClK cols9L [(rowB cd a b c t)]]]) hmix (by kernel_rfl) hc
set_option maxRecDepth 1000000 in
theorem firstZ_ok (m : Int)  (hc : conj [RightOk [(.agg ((tabZ cols9L).map .d))]]) : V.Spec Tryz.prog (Gl (gT m)) 16 (apI sFirst sLT [tabZ cols9L] nilS) [] (noO 18) [] :=
 specX (fun _ => none) (fun _ => none) (T := eTypes (tyT2 m) :: eSan :: eBaseT nilS :: eRightT :: eTabT :: eEqT :: T0) (ne := N0e) (df := D0e) (F := 100000) (d := 60) (cs := [RightOk [(.agg ((tabZ cols9L).map .d))]]) hmix (by kernel_rfl) hc
end Go.Proofs.YtdejnaokkdndeaaGreatDoor
