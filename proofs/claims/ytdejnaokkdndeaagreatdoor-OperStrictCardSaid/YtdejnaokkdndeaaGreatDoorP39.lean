/- Part 39 of the proof: texts S11f. -/
import Derived.Test.YtdejnaokkdndeaaGreatDoorP38
set_option linter.all false
namespace Go.Proofs.YtdejnaokkdndeaaGreatDoor
open Go.RowKit Go.V
theorem ckR_is (cols : List (List UInt8)) (rows : List (List Cl)) (ky cl : List UInt8) (kd : Int) : ckR cols rows ky cl kd = 0 ∨ ckR cols rows ky cl kd = 13 ∨ ckR cols rows ky cl kd = 14 := by
 unfold ckR
 split
 ·exact .inr (.inl rfl)
 ·split
  ·exact .inl rfl
  ·exact .inr (.inr rfl)
theorem rates_len (l : List Int) : ∀ i, i < (bR l).1.length → ((bR l).1.getD i []).length = cols9L.length := fun i hi => by
 obtain ⟨t, j, ht, e⟩ := (rates_all l).1 _ (getD_mem (z := []) hi)
 rw [e]; rfl
set_option maxRecDepth 1000000 in
theorem ftRates (m : Int) (cs_ es_ ct_ et_ : List (List D)) (h : TabOk [.agg [.d (.s (S ratesN)), .d (.sl 1 cs_), .d (.sl 1 es_)]]) : V.Spec Tryz.prog (Gl (gT m)) 47 [.c (.d (.sl 3 [[.s (S ratesN), .sl 1 cs_, .sl 1 es_], [.s (S townsN), .sl 1 ct_, .sl 1 et_]])), .c (.d (.s (S ratesN)))] [] (.tup [(true, [.d (.s (S ratesN)), .d (.sl 1 cs_), .d (.sl 1 es_)]), (false, [.d (.b true)])]) [] :=
 specX (fun _ => none) (fun _ => none) (T := eTabT :: T0) (ne := N0e) (df := D0e) (F := 100000) (d := 60) (cs := [TabOk [.agg [.d (.s (S ratesN)), .d (.sl 1 cs_), .d (.sl 1 es_)]]]) hmix (by kernel_rfl) h
set_option maxRecDepth 1000000 in
theorem ftTowns (m : Int) (cs_ es_ ct_ et_ : List (List D)) (h : TabOk [.agg [.d (.s (S townsN)), .d (.sl 1 ct_), .d (.sl 1 et_)]]) : V.Spec Tryz.prog (Gl (gT m)) 47 [.c (.d (.sl 3 [[.s (S ratesN), .sl 1 cs_, .sl 1 es_], [.s (S townsN), .sl 1 ct_, .sl 1 et_]])), .c (.d (.s (S townsN)))] [] (.tup [(true, [.d (.s (S townsN)), .d (.sl 1 ct_), .d (.sl 1 et_)]), (false, [.d (.b true)])]) [] :=
 specX (fun _ => none) (fun _ => none) (T := eTabT :: T0) (ne := N0e) (df := D0e) (F := 100000) (d := 60) (cs := [TabOk [.agg [.d (.s (S townsN)), .d (.sl 1 ct_), .d (.sl 1 et_)]]]) hmix (by kernel_rfl) h
set_option maxRecDepth 1000000 in
theorem ftNo_none (m : Int) (cs_ es_ ct_ et_ : List (List D)) : V.Spec Tryz.prog (Gl (gT m)) 47 [.c (.d (.sl 3 [[.s (S ratesN), .sl 1 cs_, .sl 1 es_], [.s (S townsN), .sl 1 ct_, .sl 1 et_]])), .c (.d (.s (S [110, 111, 110, 101])))] [] (.tup [(true, [.d (.s (S [])), .d .nil, .d .nil]), (false, [.d (.b false)])]) [] :=
 specX (fun _ => none) (fun _ => none) (T := eTabT :: T0) (ne := N0e) (df := D0e) (F := 100000) (d := 60) (cs := []) hmix (by kernel_rfl) trivial
set_option maxRecDepth 1000000 in
theorem ftNo_x (m : Int) (cs_ es_ ct_ et_ : List (List D)) : V.Spec Tryz.prog (Gl (gT m)) 47 [.c (.d (.sl 3 [[.s (S ratesN), .sl 1 cs_, .sl 1 es_], [.s (S townsN), .sl 1 ct_, .sl 1 et_]])), .c (.d (.s (S [120])))] [] (.tup [(true, [.d (.s (S [])), .d .nil, .d .nil]), (false, [.d (.b false)])]) [] :=
 specX (fun _ => none) (fun _ => none) (T := eTabT :: T0) (ne := N0e) (df := D0e) (F := 100000) (d := 60) (cs := []) hmix (by kernel_rfl) trivial
set_option maxRecDepth 1000000 in
theorem lk0 (m : Int) : V.Spec Tryz.prog (Gl (gT m)) 68 [.c (.d (.s (S [114, 97, 116, 101, 115, 46, 99, 111, 100, 101, 46, 114, 97, 116, 101, 58, 110, 117, 109, 98, 101, 114])))] [] (.tup [(false, [.d (.s (S [114, 97, 116, 101, 115]))]), (false, [.d (.s (S [99, 111, 100, 101]))]), (false, [.d (.s (S [114, 97, 116, 101]))]), (false, [.d (.i 2)])]) [] :=
 specX (fun _ => none) (fun _ => none) (T := T0) (ne := N0e) (df := D0e) (F := 100000) (d := 60) (cs := []) hmix (by kernel_rfl) trivial
theorem ck0 (m : Int) (l : List Int) : ∃ e, (e = 0 ∨ e = 13 ∨ e = 14) ∧ V.Spec Tryz.prog (Gl (gT m)) 46 [.c (.d (.s (S [114, 97, 116, 101, 115, 46, 99, 111, 100, 101, 46, 114, 97, 116, 101, 58, 110, 117, 109, 98, 101, 114]))), .c (.d (.sl 3 (besW l)))] [] (.c (.d (.i e))) [] :=
 ⟨ckR cols9L (bR l).1 [99, 111, 100, 101] [114, 97, 116, 101] 2, ckR_is _ _ _ _ _, ckYes_ok (g := gT m) _ ratesN _ _ _ _ cols9L (bR l).1 (by decide) (by have := (rates_all l).2; omega) (rates_len l) (lk0 m) (ftRates m _ _ _ _ (rates_tab l))⟩
set_option maxRecDepth 1000000 in
theorem lk1 (m : Int) : V.Spec Tryz.prog (Gl (gT m)) 68 [.c (.d (.s (S [114, 97, 116, 101, 115, 46, 99, 111, 100, 101, 46, 115, 105, 110, 99, 101, 58, 100, 97, 116, 101])))] [] (.tup [(false, [.d (.s (S [114, 97, 116, 101, 115]))]), (false, [.d (.s (S [99, 111, 100, 101]))]), (false, [.d (.s (S [115, 105, 110, 99, 101]))]), (false, [.d (.i 3)])]) [] :=
 specX (fun _ => none) (fun _ => none) (T := T0) (ne := N0e) (df := D0e) (F := 100000) (d := 60) (cs := []) hmix (by kernel_rfl) trivial
theorem ck1 (m : Int) (l : List Int) : ∃ e, (e = 0 ∨ e = 13 ∨ e = 14) ∧ V.Spec Tryz.prog (Gl (gT m)) 46 [.c (.d (.s (S [114, 97, 116, 101, 115, 46, 99, 111, 100, 101, 46, 115, 105, 110, 99, 101, 58, 100, 97, 116, 101]))), .c (.d (.sl 3 (besW l)))] [] (.c (.d (.i e))) [] :=
 ⟨ckR cols9L (bR l).1 [99, 111, 100, 101] [115, 105, 110, 99, 101] 3, ckR_is _ _ _ _ _, ckYes_ok (g := gT m) _ ratesN _ _ _ _ cols9L (bR l).1 (by decide) (by have := (rates_all l).2; omega) (rates_len l) (lk1 m) (ftRates m _ _ _ _ (rates_tab l))⟩
set_option maxRecDepth 1000000 in
theorem lk2 (m : Int) : V.Spec Tryz.prog (Gl (gT m)) 68 [.c (.d (.s (S [114, 97, 116, 101, 115, 46, 99, 111, 100, 101, 46, 111, 112, 101, 110, 58, 98, 111, 111, 108])))] [] (.tup [(false, [.d (.s (S [114, 97, 116, 101, 115]))]), (false, [.d (.s (S [99, 111, 100, 101]))]), (false, [.d (.s (S [111, 112, 101, 110]))]), (false, [.d (.i 4)])]) [] :=
 specX (fun _ => none) (fun _ => none) (T := T0) (ne := N0e) (df := D0e) (F := 100000) (d := 60) (cs := []) hmix (by kernel_rfl) trivial
theorem ck2 (m : Int) (l : List Int) : ∃ e, (e = 0 ∨ e = 13 ∨ e = 14) ∧ V.Spec Tryz.prog (Gl (gT m)) 46 [.c (.d (.s (S [114, 97, 116, 101, 115, 46, 99, 111, 100, 101, 46, 111, 112, 101, 110, 58, 98, 111, 111, 108]))), .c (.d (.sl 3 (besW l)))] [] (.c (.d (.i e))) [] :=
 ⟨ckR cols9L (bR l).1 [99, 111, 100, 101] [111, 112, 101, 110] 4, ckR_is _ _ _ _ _, ckYes_ok (g := gT m) _ ratesN _ _ _ _ cols9L (bR l).1 (by decide) (by have := (rates_all l).2; omega) (rates_len l) (lk2 m) (ftRates m _ _ _ _ (rates_tab l))⟩
set_option maxRecDepth 1000000 in
theorem lk3 (m : Int) : V.Spec Tryz.prog (Gl (gT m)) 68 [.c (.d (.s (S [114, 97, 116, 101, 115, 46, 108, 97, 98, 101, 108, 46, 99, 111, 100, 101, 58, 116, 101, 120, 116])))] [] (.tup [(false, [.d (.s (S [114, 97, 116, 101, 115]))]), (false, [.d (.s (S [108, 97, 98, 101, 108]))]), (false, [.d (.s (S [99, 111, 100, 101]))]), (false, [.d (.i 1)])]) [] :=
 specX (fun _ => none) (fun _ => none) (T := T0) (ne := N0e) (df := D0e) (F := 100000) (d := 60) (cs := []) hmix (by kernel_rfl) trivial
theorem ck3 (m : Int) (l : List Int) : ∃ e, (e = 0 ∨ e = 13 ∨ e = 14) ∧ V.Spec Tryz.prog (Gl (gT m)) 46 [.c (.d (.s (S [114, 97, 116, 101, 115, 46, 108, 97, 98, 101, 108, 46, 99, 111, 100, 101, 58, 116, 101, 120, 116]))), .c (.d (.sl 3 (besW l)))] [] (.c (.d (.i e))) [] :=
 ⟨ckR cols9L (bR l).1 [108, 97, 98, 101, 108] [99, 111, 100, 101] 1, ckR_is _ _ _ _ _, ckYes_ok (g := gT m) _ ratesN _ _ _ _ cols9L (bR l).1 (by decide) (by have := (rates_all l).2; omega) (rates_len l) (lk3 m) (ftRates m _ _ _ _ (rates_tab l))⟩
set_option maxRecDepth 1000000 in
theorem lk4 (m : Int) : V.Spec Tryz.prog (Gl (gT m)) 68 [.c (.d (.s (S [116, 111, 119, 110, 115, 46, 99, 105, 116, 121, 46, 122, 105, 112, 58, 110, 117, 109, 98, 101, 114])))] [] (.tup [(false, [.d (.s (S [116, 111, 119, 110, 115]))]), (false, [.d (.s (S [99, 105, 116, 121]))]), (false, [.d (.s (S [122, 105, 112]))]), (false, [.d (.i 2)])]) [] :=
 specX (fun _ => none) (fun _ => none) (T := T0) (ne := N0e) (df := D0e) (F := 100000) (d := 60) (cs := []) hmix (by kernel_rfl) trivial
theorem ck4 (m : Int) (l : List Int) : ∃ e, (e = 0 ∨ e = 13 ∨ e = 14) ∧ V.Spec Tryz.prog (Gl (gT m)) 46 [.c (.d (.s (S [116, 111, 119, 110, 115, 46, 99, 105, 116, 121, 46, 122, 105, 112, 58, 110, 117, 109, 98, 101, 114]))), .c (.d (.sl 3 (besW l)))] [] (.c (.d (.i e))) [] :=
 ⟨ckR (col9L.take (mN9 (bT l))) (mR9 (bT l)) [99, 105, 116, 121] [122, 105, 112] 2, ckR_is _ _ _ _ _, ckYes_ok (g := gT m) _ townsN _ _ _ _ (col9L.take (mN9 (bT l))) (mR9 (bT l)) (towns_bd l).1 (towns_bd l).2.1 (towns_bd l).2.2 (lk4 m) (ftTowns m _ _ _ _ (towns_tab (bT l)))⟩
set_option maxRecDepth 1000000 in
theorem lk5 (m : Int) : V.Spec Tryz.prog (Gl (gT m)) 68 [.c (.d (.s (S [116, 111, 119, 110, 115, 46, 99, 105, 116, 121, 46, 99, 111, 117, 110, 116, 114, 121, 58, 116, 101, 120, 116])))] [] (.tup [(false, [.d (.s (S [116, 111, 119, 110, 115]))]), (false, [.d (.s (S [99, 105, 116, 121]))]), (false, [.d (.s (S [99, 111, 117, 110, 116, 114, 121]))]), (false, [.d (.i 1)])]) [] :=
 specX (fun _ => none) (fun _ => none) (T := T0) (ne := N0e) (df := D0e) (F := 100000) (d := 60) (cs := []) hmix (by kernel_rfl) trivial
theorem ck5 (m : Int) (l : List Int) : ∃ e, (e = 0 ∨ e = 13 ∨ e = 14) ∧ V.Spec Tryz.prog (Gl (gT m)) 46 [.c (.d (.s (S [116, 111, 119, 110, 115, 46, 99, 105, 116, 121, 46, 99, 111, 117, 110, 116, 114, 121, 58, 116, 101, 120, 116]))), .c (.d (.sl 3 (besW l)))] [] (.c (.d (.i e))) [] :=
 ⟨ckR (col9L.take (mN9 (bT l))) (mR9 (bT l)) [99, 105, 116, 121] [99, 111, 117, 110, 116, 114, 121] 1, ckR_is _ _ _ _ _, ckYes_ok (g := gT m) _ townsN _ _ _ _ (col9L.take (mN9 (bT l))) (mR9 (bT l)) (towns_bd l).1 (towns_bd l).2.1 (towns_bd l).2.2 (lk5 m) (ftTowns m _ _ _ _ (towns_tab (bT l)))⟩
set_option maxRecDepth 1000000 in
theorem lk6 (m : Int) : V.Spec Tryz.prog (Gl (gT m)) 68 [.c (.d (.s (S [114, 97, 116, 101, 115, 46, 99, 111, 100, 101, 46, 114, 97, 116, 101, 58, 116, 101, 120, 116])))] [] (.tup [(false, [.d (.s (S [114, 97, 116, 101, 115]))]), (false, [.d (.s (S [99, 111, 100, 101]))]), (false, [.d (.s (S [114, 97, 116, 101]))]), (false, [.d (.i 1)])]) [] :=
 specX (fun _ => none) (fun _ => none) (T := T0) (ne := N0e) (df := D0e) (F := 100000) (d := 60) (cs := []) hmix (by kernel_rfl) trivial
theorem ck6 (m : Int) (l : List Int) : ∃ e, (e = 0 ∨ e = 13 ∨ e = 14) ∧ V.Spec Tryz.prog (Gl (gT m)) 46 [.c (.d (.s (S [114, 97, 116, 101, 115, 46, 99, 111, 100, 101, 46, 114, 97, 116, 101, 58, 116, 101, 120, 116]))), .c (.d (.sl 3 (besW l)))] [] (.c (.d (.i e))) [] :=
 ⟨ckR cols9L (bR l).1 [99, 111, 100, 101] [114, 97, 116, 101] 1, ckR_is _ _ _ _ _, ckYes_ok (g := gT m) _ ratesN _ _ _ _ cols9L (bR l).1 (by decide) (by have := (rates_all l).2; omega) (rates_len l) (lk6 m) (ftRates m _ _ _ _ (rates_tab l))⟩
set_option maxRecDepth 1000000 in
theorem lk7 (m : Int) : V.Spec Tryz.prog (Gl (gT m)) 68 [.c (.d (.s (S [114, 97, 116, 101, 115, 46, 99, 111, 100, 101, 46, 120, 58, 116, 101, 120, 116])))] [] (.tup [(false, [.d (.s (S [114, 97, 116, 101, 115]))]), (false, [.d (.s (S [99, 111, 100, 101]))]), (false, [.d (.s (S [120]))]), (false, [.d (.i 1)])]) [] :=
 specX (fun _ => none) (fun _ => none) (T := T0) (ne := N0e) (df := D0e) (F := 100000) (d := 60) (cs := []) hmix (by kernel_rfl) trivial
theorem ck7 (m : Int) (l : List Int) : ∃ e, (e = 0 ∨ e = 13 ∨ e = 14) ∧ V.Spec Tryz.prog (Gl (gT m)) 46 [.c (.d (.s (S [114, 97, 116, 101, 115, 46, 99, 111, 100, 101, 46, 120, 58, 116, 101, 120, 116]))), .c (.d (.sl 3 (besW l)))] [] (.c (.d (.i e))) [] :=
 ⟨ckR cols9L (bR l).1 [99, 111, 100, 101] [120] 1, ckR_is _ _ _ _ _, ckYes_ok (g := gT m) _ ratesN _ _ _ _ cols9L (bR l).1 (by decide) (by have := (rates_all l).2; omega) (rates_len l) (lk7 m) (ftRates m _ _ _ _ (rates_tab l))⟩
set_option maxRecDepth 1000000 in
theorem lk8 (m : Int) : V.Spec Tryz.prog (Gl (gT m)) 68 [.c (.d (.s (S [110, 111, 110, 101, 46, 97, 46, 98, 58, 116, 101, 120, 116])))] [] (.tup [(false, [.d (.s (S [110, 111, 110, 101]))]), (false, [.d (.s (S [97]))]), (false, [.d (.s (S [98]))]), (false, [.d (.i 1)])]) [] :=
 specX (fun _ => none) (fun _ => none) (T := T0) (ne := N0e) (df := D0e) (F := 100000) (d := 60) (cs := []) hmix (by kernel_rfl) trivial
theorem ck8 (m : Int) (l : List Int) : ∃ e, (e = 0 ∨ e = 13 ∨ e = 14) ∧ V.Spec Tryz.prog (Gl (gT m)) 46 [.c (.d (.s (S [110, 111, 110, 101, 46, 97, 46, 98, 58, 116, 101, 120, 116]))), .c (.d (.sl 3 (besW l)))] [] (.c (.d (.i e))) [] :=
 ⟨13, .inr (.inl rfl), ckNo_ok (g := gT m) _ _ _ _ _ _ (lk8 m) (ftNo_none m _ _ _ _)⟩
set_option maxRecDepth 1000000 in
theorem lk9 (m : Int) : V.Spec Tryz.prog (Gl (gT m)) 68 [.c (.d (.s (S [114, 97, 116, 101, 115, 46, 99, 111, 100, 101, 46, 99, 111, 100, 101, 58, 116, 101, 120, 116])))] [] (.tup [(false, [.d (.s (S [114, 97, 116, 101, 115]))]), (false, [.d (.s (S [99, 111, 100, 101]))]), (false, [.d (.s (S [99, 111, 100, 101]))]), (false, [.d (.i 1)])]) [] :=
 specX (fun _ => none) (fun _ => none) (T := T0) (ne := N0e) (df := D0e) (F := 100000) (d := 60) (cs := []) hmix (by kernel_rfl) trivial
theorem ck9 (m : Int) (l : List Int) : ∃ e, (e = 0 ∨ e = 13 ∨ e = 14) ∧ V.Spec Tryz.prog (Gl (gT m)) 46 [.c (.d (.s (S [114, 97, 116, 101, 115, 46, 99, 111, 100, 101, 46, 99, 111, 100, 101, 58, 116, 101, 120, 116]))), .c (.d (.sl 3 (besW l)))] [] (.c (.d (.i e))) [] :=
 ⟨ckR cols9L (bR l).1 [99, 111, 100, 101] [99, 111, 100, 101] 1, ckR_is _ _ _ _ _, ckYes_ok (g := gT m) _ ratesN _ _ _ _ cols9L (bR l).1 (by decide) (by have := (rates_all l).2; omega) (rates_len l) (lk9 m) (ftRates m _ _ _ _ (rates_tab l))⟩
end Go.Proofs.YtdejnaokkdndeaaGreatDoor
