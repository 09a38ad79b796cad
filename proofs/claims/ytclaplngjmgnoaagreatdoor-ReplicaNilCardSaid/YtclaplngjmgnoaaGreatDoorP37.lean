/- Part 37 of the proof: texts U33r. -/
import Derived.Test.YtclaplngjmgnoaaGreatDoorP36
set_option linter.all false
set_option maxRecDepth 100000
namespace Go.Proofs.YtclaplngjmgnoaaGreatDoor
open Go.RowKit Go.V
variable {g : Gv}
theorem nilX0 (l : List Int) (a : Int) (it : It) (n : Int) (h : conj (wY g l (itC it) [SX g 26 [.c (cI a), .c (cI n)] (.c (cB false)), SX g 17 [.c (cI a), .c (cI n)] (ptN), SX g 10 [] (.c (cB true))])) : SX g 8 [.c (cI a), .c (cI n), .c (cM 1 (intsD l))] (.c (cB true)) :=
 sX (fun _ => none) (fun _ => none) (fun _ => none) (T := (wX (eP 17 (.c (.d (.v (.pointer none)))) []) false (itC it) (e1 1) eNl)) (by kernel_rfl) h
theorem nilX1 (l : List Int) (a : Int) (it : It) (h : conj (SR g 14 [bx0] (rB a 1) (.c (cS (S []))) :: SR g 25 [bx0] (rB a 1) (.c (cM 3 [])) :: SR g 23 [bx0, .c (cI 1)] (rB a 1) (.c (cI 34)) :: wY g l (itC it) [SX g 26 [.c (cI a), .c (cI 1)] (.c (cB true)), V.Spec Tryz.prog (Gl g) 17 [.c (cI a), .c (cI 1)] [] (.c (.bx 100 0)) [(100, .box 73 [cI a, cI 1, .mp 102]), (102, .box ⟨.mpb [], none⟩ [])], SX g 10 [] (.c (cB true))])) : SX g 8 [.c (cI a), .c (cI 1), .c (cM 1 (intsD l))] (.c (cB true)) :=
 sX (fun _ => none) (fun _ => none) (fun _ => none) (T := (wX (eP 17 (.c (.bx 100 0)) [(100, .box 73 [cI a, cI 1, .mp 102]), (102, .box ⟨.mpb [], none⟩ [])]) true (itC it) aBB (eTk []))) (by kernel_rfl) h
theorem nilX2 (l : List Int) (a : Int) (it : It) (m0 : List D) (h : conj (SR g 14 [bx0] (rB a 2) (.c (cS (S []))) :: SR g 25 [bx0] (rB a 2) (.c (cM 3 [m0])) :: SR g 23 [bx0, .c (cI 1)] (rB a 2) (.c (cI 34)) :: wY g l (itC it) [SX g 26 [.c (cI a), .c (cI 2)] (.c (cB true)), V.Spec Tryz.prog (Gl g) 17 [.c (cI a), .c (cI 2)] [] (.c (.bx 100 0)) [(100, .box 73 [cI a, cI 2, .mp 102]), (102, .box ⟨.mpb [], none⟩ [])], SX g 10 [] (.c (cB true))])) : SX g 8 [.c (cI a), .c (cI 2), .c (cM 1 (intsD l))] (.c (cB true)) :=
 sX (fun _ => none) (fun _ => none) (fun _ => none) (T := (wX (eP 17 (.c (.bx 100 0)) [(100, .box 73 [cI a, cI 2, .mp 102]), (102, .box ⟨.mpb [], none⟩ [])]) true (itC it) aBB (eTk [m0]))) (by kernel_rfl) h
theorem aLA (l : List Int) (a : Int) (it : It) (m0 m1 : List D) (h : conj (SR g 14 [bx0] (rB a 3) (.c (cS (S []))) :: SR g 25 [bx0] (rB a 3) (.c (cM 3 [m0, m1])) :: SR g 23 [bx0, .c (cI 1)] (rB a 3) (.c (cI 34)) :: wY g l (itC it) [SX g 26 [.c (cI a), .c (cI 3)] (.c (cB true)), V.Spec Tryz.prog (Gl g) 17 [.c (cI a), .c (cI 3)] [] (.c (.bx 100 0)) [(100, .box 73 [cI a, cI 3, .mp 102]), (102, .box ⟨.mpb [], none⟩ [])], SX g 10 [] (.c (cB true))])) : SX g 8 [.c (cI a), .c (cI 3), .c (cM 1 (intsD l))] (.c (cB true)) :=
 sX (fun _ => none) (fun _ => none) (fun _ => none) (T := (wX (eP 17 (.c (.bx 100 0)) [(100, .box 73 [cI a, cI 3, .mp 102]), (102, .box ⟨.mpb [], none⟩ [])]) true (itC it) aBB (eTk [m0, m1]))) (by kernel_rfl) h
theorem aE6 (l : List Int) (a : Int) (it : It) (m0 m1 m2 : List D) (h : conj (SR g 14 [bx0] (rB a 4) (.c (cS (S []))) :: SR g 25 [bx0] (rB a 4) (.c (cM 3 [m0, m1, m2])) :: SR g 23 [bx0, .c (cI 1)] (rB a 4) (.c (cI 34)) :: wY g l (itC it) [SX g 26 [.c (cI a), .c (cI 4)] (.c (cB true)), V.Spec Tryz.prog (Gl g) 17 [.c (cI a), .c (cI 4)] [] (.c (.bx 100 0)) [(100, .box 73 [cI a, cI 4, .mp 102]), (102, .box ⟨.mpb [], none⟩ [])], SX g 10 [] (.c (cB true))])) : SX g 8 [.c (cI a), .c (cI 4), .c (cM 1 (intsD l))] (.c (cB true)) :=
 sX (fun _ => none) (fun _ => none) (fun _ => none) (T := (wX (eP 17 (.c (.bx 100 0)) [(100, .box 73 [cI a, cI 4, .mp 102]), (102, .box ⟨.mpb [], none⟩ [])]) true (itC it) aBB (eTk [m0, m1, m2]))) (by kernel_rfl) h
theorem aAN (l : List Int) (a : Int) (it : It) (m0 m1 m2 m3 : List D) (h : conj (SR g 14 [bx0] (rB a 5) (.c (cS (S []))) :: SR g 25 [bx0] (rB a 5) (.c (cM 3 [m0, m1, m2, m3])) :: SR g 23 [bx0, .c (cI 1)] (rB a 5) (.c (cI 34)) :: wY g l (itC it) [SX g 26 [.c (cI a), .c (cI 5)] (.c (cB true)), V.Spec Tryz.prog (Gl g) 17 [.c (cI a), .c (cI 5)] [] (.c (.bx 100 0)) [(100, .box 73 [cI a, cI 5, .mp 102]), (102, .box ⟨.mpb [], none⟩ [])], SX g 10 [] (.c (cB true))])) : SX g 8 [.c (cI a), .c (cI 5), .c (cM 1 (intsD l))] (.c (cB true)) :=
 sX (fun _ => none) (fun _ => none) (fun _ => none) (T := (wX (eP 17 (.c (.bx 100 0)) [(100, .box 73 [cI a, cI 5, .mp 102]), (102, .box ⟨.mpb [], none⟩ [])]) true (itC it) aBB (eTk [m0, m1, m2, m3]))) (by kernel_rfl) h
theorem tY (l : List Int) (a : Int) (it : It) (m0 m1 m2 m3 m4 : List D) (h : conj (SR g 14 [bx0] (rB a 6) (.c (cS (S []))) :: SR g 25 [bx0] (rB a 6) (.c (cM 3 [m0, m1, m2, m3, m4])) :: SR g 23 [bx0, .c (cI 1)] (rB a 6) (.c (cI 34)) :: wY g l (itC it) [SX g 26 [.c (cI a), .c (cI 6)] (.c (cB true)), V.Spec Tryz.prog (Gl g) 17 [.c (cI a), .c (cI 6)] [] (.c (.bx 100 0)) [(100, .box 73 [cI a, cI 6, .mp 102]), (102, .box ⟨.mpb [], none⟩ [])], SX g 10 [] (.c (cB true))])) : SX g 8 [.c (cI a), .c (cI 6), .c (cM 1 (intsD l))] (.c (cB true)) :=
 sX (fun _ => none) (fun _ => none) (fun _ => none) (T := (wX (eP 17 (.c (.bx 100 0)) [(100, .box 73 [cI a, cI 6, .mp 102]), (102, .box ⟨.mpb [], none⟩ [])]) true (itC it) aBB (eTk [m0, m1, m2, m3, m4]))) (by kernel_rfl) h
theorem qZ (l : List Int) (a : Int) (it : It) (m0 m1 m2 m3 m4 m5 : List D) (h : conj (SR g 14 [bx0] (rB a 7) (.c (cS (S []))) :: SR g 25 [bx0] (rB a 7) (.c (cM 3 [m0, m1, m2, m3, m4, m5])) :: SR g 23 [bx0, .c (cI 1)] (rB a 7) (.c (cI 34)) :: wY g l (itC it) [SX g 26 [.c (cI a), .c (cI 7)] (.c (cB true)), V.Spec Tryz.prog (Gl g) 17 [.c (cI a), .c (cI 7)] [] (.c (.bx 100 0)) [(100, .box 73 [cI a, cI 7, .mp 102]), (102, .box ⟨.mpb [], none⟩ [])], SX g 10 [] (.c (cB true))])) : SX g 8 [.c (cI a), .c (cI 7), .c (cM 1 (intsD l))] (.c (cB true)) :=
 sX (fun _ => none) (fun _ => none) (fun _ => none) (T := (wX (eP 17 (.c (.bx 100 0)) [(100, .box 73 [cI a, cI 7, .mp 102]), (102, .box ⟨.mpb [], none⟩ [])]) true (itC it) aBB (eTk [m0, m1, m2, m3, m4, m5]))) (by kernel_rfl) h
theorem o4 (l : List Int) (a : Int) (it : It) (m0 m1 m2 m3 m4 m5 m6 : List D) (h : conj (SR g 14 [bx0] (rB a 8) (.c (cS (S []))) :: SR g 25 [bx0] (rB a 8) (.c (cM 3 [m0, m1, m2, m3, m4, m5, m6])) :: SR g 23 [bx0, .c (cI 1)] (rB a 8) (.c (cI 34)) :: wY g l (itC it) [SX g 26 [.c (cI a), .c (cI 8)] (.c (cB true)), V.Spec Tryz.prog (Gl g) 17 [.c (cI a), .c (cI 8)] [] (.c (.bx 100 0)) [(100, .box 73 [cI a, cI 8, .mp 102]), (102, .box ⟨.mpb [], none⟩ [])], SX g 10 [] (.c (cB true))])) : SX g 8 [.c (cI a), .c (cI 8), .c (cM 1 (intsD l))] (.c (cB true)) :=
 sX (fun _ => none) (fun _ => none) (fun _ => none) (T := (wX (eP 17 (.c (.bx 100 0)) [(100, .box 73 [cI a, cI 8, .mp 102]), (102, .box ⟨.mpb [], none⟩ [])]) true (itC it) aBB (eTk [m0, m1, m2, m3, m4, m5, m6]))) (by kernel_rfl) h
theorem nil_ok (a n : Int) (l : List Int) (hl : NumOk l 0) : V.Spec Tryz.prog (Gl g) 8 [.c (cI a), .c (cI n), .c (cM 1 (intsD l))] [] (.c (cB true)) [] := by
 obtain ⟨it, hit, -, -, hs⟩ := aED (g := g) 0 0 0 1 l hl ⟨by decide, by decide⟩
 have hp := wO (g := g) a n
 cases hb : lT a n with
 | false =>
  rw [hb] at hp
  exact nilX0 l a it n ⟨aZ it, aF 1, take_zero 0 0 (S []), aX, aI, aL, bB it, aH 1, take_nil 0 0 (S []), bA, aK, aQ, hs, hp, new_no a n hb, aY⟩
 | true =>
  rw [hb] at hp
  simp only [lT, Bool.and_eq_true, decide_eq_true_eq] at hb
  have hn : n = 1 ∨ n = 2 ∨ n = 3 ∨ n = 4 ∨ n = 5 ∨ n = 6 ∨ n = 7 ∨ n = 8 := by omega
  rcases hn with rfl | rfl | rfl | rfl | rfl | rfl | rfl | rfl
  have ha : a = 1 := by omega
  subst ha
  exact nilX1 l 1 it ⟨aS 1 1 [] (rs0 1), bL 1 1 [] _ (rs0 1) (by decide) (by decide) rfl, aO 1 1 1 34 [] [] (rs0 1) ⟨rfl, rfl⟩, aZ it, aF 1, take_zero 0 0 (S []), aX, aI, aL, bB it, aH 1, take_nil 0 0 (S []), bA, aK, aQ, hs, hp, bG 1 1 (by decide), aY⟩
  have ha : a = 1 ∨ a = 2 := by omega
  rcases ha with rfl | rfl
  exact nilX2 l 1 it _ ⟨aS 1 2 [] (rs0 2), bL 1 2 [] _ (rs0 2) (by decide) (by decide) rfl, aO 1 2 1 34 [] [] (rs0 2) ⟨rfl, rfl⟩, aZ it, aF 1, take_zero 0 0 (S []), aX, aI, aL, bB it, aH 1, take_nil 0 0 (S []), bA, aK, aQ, hs, hp, bG 1 2 (by decide), aY⟩
  exact nilX2 l 2 it _ ⟨aS 2 2 [] (rs0 2), bL 2 2 [] _ (rs0 2) (by decide) (by decide) rfl, aO 2 2 1 34 [] [] (rs0 2) ⟨rfl, rfl⟩, aZ it, aF 1, take_zero 0 0 (S []), aX, aI, aL, bB it, aH 1, take_nil 0 0 (S []), bA, aK, aQ, hs, hp, bG 2 2 (by decide), aY⟩
  have ha : a = 1 ∨ a = 2 ∨ a = 3 := by omega
  rcases ha with rfl | rfl | rfl
  exact aLA l 1 it _ _ ⟨aS 1 3 [] (rs0 3), bL 1 3 [] _ (rs0 3) (by decide) (by decide) rfl, aO 1 3 1 34 [] [] (rs0 3) ⟨rfl, rfl⟩, aZ it, aF 1, take_zero 0 0 (S []), aX, aI, aL, bB it, aH 1, take_nil 0 0 (S []), bA, aK, aQ, hs, hp, bG 1 3 (by decide), aY⟩
  exact aLA l 2 it _ _ ⟨aS 2 3 [] (rs0 3), bL 2 3 [] _ (rs0 3) (by decide) (by decide) rfl, aO 2 3 1 34 [] [] (rs0 3) ⟨rfl, rfl⟩, aZ it, aF 1, take_zero 0 0 (S []), aX, aI, aL, bB it, aH 1, take_nil 0 0 (S []), bA, aK, aQ, hs, hp, bG 2 3 (by decide), aY⟩
  exact aLA l 3 it _ _ ⟨aS 3 3 [] (rs0 3), bL 3 3 [] _ (rs0 3) (by decide) (by decide) rfl, aO 3 3 1 34 [] [] (rs0 3) ⟨rfl, rfl⟩, aZ it, aF 1, take_zero 0 0 (S []), aX, aI, aL, bB it, aH 1, take_nil 0 0 (S []), bA, aK, aQ, hs, hp, bG 3 3 (by decide), aY⟩
  have ha : a = 1 ∨ a = 2 ∨ a = 3 ∨ a = 4 := by omega
  rcases ha with rfl | rfl | rfl | rfl
  exact aE6 l 1 it _ _ _ ⟨aS 1 4 [] (rs0 4), bL 1 4 [] _ (rs0 4) (by decide) (by decide) rfl, aO 1 4 1 34 [] [] (rs0 4) ⟨rfl, rfl⟩, aZ it, aF 1, take_zero 0 0 (S []), aX, aI, aL, bB it, aH 1, take_nil 0 0 (S []), bA, aK, aQ, hs, hp, bG 1 4 (by decide), aY⟩
  exact aE6 l 2 it _ _ _ ⟨aS 2 4 [] (rs0 4), bL 2 4 [] _ (rs0 4) (by decide) (by decide) rfl, aO 2 4 1 34 [] [] (rs0 4) ⟨rfl, rfl⟩, aZ it, aF 1, take_zero 0 0 (S []), aX, aI, aL, bB it, aH 1, take_nil 0 0 (S []), bA, aK, aQ, hs, hp, bG 2 4 (by decide), aY⟩
  exact aE6 l 3 it _ _ _ ⟨aS 3 4 [] (rs0 4), bL 3 4 [] _ (rs0 4) (by decide) (by decide) rfl, aO 3 4 1 34 [] [] (rs0 4) ⟨rfl, rfl⟩, aZ it, aF 1, take_zero 0 0 (S []), aX, aI, aL, bB it, aH 1, take_nil 0 0 (S []), bA, aK, aQ, hs, hp, bG 3 4 (by decide), aY⟩
  exact aE6 l 4 it _ _ _ ⟨aS 4 4 [] (rs0 4), bL 4 4 [] _ (rs0 4) (by decide) (by decide) rfl, aO 4 4 1 34 [] [] (rs0 4) ⟨rfl, rfl⟩, aZ it, aF 1, take_zero 0 0 (S []), aX, aI, aL, bB it, aH 1, take_nil 0 0 (S []), bA, aK, aQ, hs, hp, bG 4 4 (by decide), aY⟩
  have ha : a = 1 ∨ a = 2 ∨ a = 3 ∨ a = 4 ∨ a = 5 := by omega
  rcases ha with rfl | rfl | rfl | rfl | rfl
  exact aAN l 1 it _ _ _ _ ⟨aS 1 5 [] (rs0 5), bL 1 5 [] _ (rs0 5) (by decide) (by decide) rfl, aO 1 5 1 34 [] [] (rs0 5) ⟨rfl, rfl⟩, aZ it, aF 1, take_zero 0 0 (S []), aX, aI, aL, bB it, aH 1, take_nil 0 0 (S []), bA, aK, aQ, hs, hp, bG 1 5 (by decide), aY⟩
  exact aAN l 2 it _ _ _ _ ⟨aS 2 5 [] (rs0 5), bL 2 5 [] _ (rs0 5) (by decide) (by decide) rfl, aO 2 5 1 34 [] [] (rs0 5) ⟨rfl, rfl⟩, aZ it, aF 1, take_zero 0 0 (S []), aX, aI, aL, bB it, aH 1, take_nil 0 0 (S []), bA, aK, aQ, hs, hp, bG 2 5 (by decide), aY⟩
  exact aAN l 3 it _ _ _ _ ⟨aS 3 5 [] (rs0 5), bL 3 5 [] _ (rs0 5) (by decide) (by decide) rfl, aO 3 5 1 34 [] [] (rs0 5) ⟨rfl, rfl⟩, aZ it, aF 1, take_zero 0 0 (S []), aX, aI, aL, bB it, aH 1, take_nil 0 0 (S []), bA, aK, aQ, hs, hp, bG 3 5 (by decide), aY⟩
  exact aAN l 4 it _ _ _ _ ⟨aS 4 5 [] (rs0 5), bL 4 5 [] _ (rs0 5) (by decide) (by decide) rfl, aO 4 5 1 34 [] [] (rs0 5) ⟨rfl, rfl⟩, aZ it, aF 1, take_zero 0 0 (S []), aX, aI, aL, bB it, aH 1, take_nil 0 0 (S []), bA, aK, aQ, hs, hp, bG 4 5 (by decide), aY⟩
  exact aAN l 5 it _ _ _ _ ⟨aS 5 5 [] (rs0 5), bL 5 5 [] _ (rs0 5) (by decide) (by decide) rfl, aO 5 5 1 34 [] [] (rs0 5) ⟨rfl, rfl⟩, aZ it, aF 1, take_zero 0 0 (S []), aX, aI, aL, bB it, aH 1, take_nil 0 0 (S []), bA, aK, aQ, hs, hp, bG 5 5 (by decide), aY⟩
  have ha : a = 1 ∨ a = 2 ∨ a = 3 ∨ a = 4 ∨ a = 5 ∨ a = 6 := by omega
  rcases ha with rfl | rfl | rfl | rfl | rfl | rfl
  exact tY l 1 it _ _ _ _ _ ⟨aS 1 6 [] (rs0 6), bL 1 6 [] _ (rs0 6) (by decide) (by decide) rfl, aO 1 6 1 34 [] [] (rs0 6) ⟨rfl, rfl⟩, aZ it, aF 1, take_zero 0 0 (S []), aX, aI, aL, bB it, aH 1, take_nil 0 0 (S []), bA, aK, aQ, hs, hp, bG 1 6 (by decide), aY⟩
  exact tY l 2 it _ _ _ _ _ ⟨aS 2 6 [] (rs0 6), bL 2 6 [] _ (rs0 6) (by decide) (by decide) rfl, aO 2 6 1 34 [] [] (rs0 6) ⟨rfl, rfl⟩, aZ it, aF 1, take_zero 0 0 (S []), aX, aI, aL, bB it, aH 1, take_nil 0 0 (S []), bA, aK, aQ, hs, hp, bG 2 6 (by decide), aY⟩
  exact tY l 3 it _ _ _ _ _ ⟨aS 3 6 [] (rs0 6), bL 3 6 [] _ (rs0 6) (by decide) (by decide) rfl, aO 3 6 1 34 [] [] (rs0 6) ⟨rfl, rfl⟩, aZ it, aF 1, take_zero 0 0 (S []), aX, aI, aL, bB it, aH 1, take_nil 0 0 (S []), bA, aK, aQ, hs, hp, bG 3 6 (by decide), aY⟩
  exact tY l 4 it _ _ _ _ _ ⟨aS 4 6 [] (rs0 6), bL 4 6 [] _ (rs0 6) (by decide) (by decide) rfl, aO 4 6 1 34 [] [] (rs0 6) ⟨rfl, rfl⟩, aZ it, aF 1, take_zero 0 0 (S []), aX, aI, aL, bB it, aH 1, take_nil 0 0 (S []), bA, aK, aQ, hs, hp, bG 4 6 (by decide), aY⟩
  exact tY l 5 it _ _ _ _ _ ⟨aS 5 6 [] (rs0 6), bL 5 6 [] _ (rs0 6) (by decide) (by decide) rfl, aO 5 6 1 34 [] [] (rs0 6) ⟨rfl, rfl⟩, aZ it, aF 1, take_zero 0 0 (S []), aX, aI, aL, bB it, aH 1, take_nil 0 0 (S []), bA, aK, aQ, hs, hp, bG 5 6 (by decide), aY⟩
  exact tY l 6 it _ _ _ _ _ ⟨aS 6 6 [] (rs0 6), bL 6 6 [] _ (rs0 6) (by decide) (by decide) rfl, aO 6 6 1 34 [] [] (rs0 6) ⟨rfl, rfl⟩, aZ it, aF 1, take_zero 0 0 (S []), aX, aI, aL, bB it, aH 1, take_nil 0 0 (S []), bA, aK, aQ, hs, hp, bG 6 6 (by decide), aY⟩
  have ha : a = 1 ∨ a = 2 ∨ a = 3 ∨ a = 4 ∨ a = 5 ∨ a = 6 ∨ a = 7 := by omega
  rcases ha with rfl | rfl | rfl | rfl | rfl | rfl | rfl
  exact qZ l 1 it _ _ _ _ _ _ ⟨aS 1 7 [] (rs0 7), bL 1 7 [] _ (rs0 7) (by decide) (by decide) rfl, aO 1 7 1 34 [] [] (rs0 7) ⟨rfl, rfl⟩, aZ it, aF 1, take_zero 0 0 (S []), aX, aI, aL, bB it, aH 1, take_nil 0 0 (S []), bA, aK, aQ, hs, hp, bG 1 7 (by decide), aY⟩
  exact qZ l 2 it _ _ _ _ _ _ ⟨aS 2 7 [] (rs0 7), bL 2 7 [] _ (rs0 7) (by decide) (by decide) rfl, aO 2 7 1 34 [] [] (rs0 7) ⟨rfl, rfl⟩, aZ it, aF 1, take_zero 0 0 (S []), aX, aI, aL, bB it, aH 1, take_nil 0 0 (S []), bA, aK, aQ, hs, hp, bG 2 7 (by decide), aY⟩
  exact qZ l 3 it _ _ _ _ _ _ ⟨aS 3 7 [] (rs0 7), bL 3 7 [] _ (rs0 7) (by decide) (by decide) rfl, aO 3 7 1 34 [] [] (rs0 7) ⟨rfl, rfl⟩, aZ it, aF 1, take_zero 0 0 (S []), aX, aI, aL, bB it, aH 1, take_nil 0 0 (S []), bA, aK, aQ, hs, hp, bG 3 7 (by decide), aY⟩
  exact qZ l 4 it _ _ _ _ _ _ ⟨aS 4 7 [] (rs0 7), bL 4 7 [] _ (rs0 7) (by decide) (by decide) rfl, aO 4 7 1 34 [] [] (rs0 7) ⟨rfl, rfl⟩, aZ it, aF 1, take_zero 0 0 (S []), aX, aI, aL, bB it, aH 1, take_nil 0 0 (S []), bA, aK, aQ, hs, hp, bG 4 7 (by decide), aY⟩
  exact qZ l 5 it _ _ _ _ _ _ ⟨aS 5 7 [] (rs0 7), bL 5 7 [] _ (rs0 7) (by decide) (by decide) rfl, aO 5 7 1 34 [] [] (rs0 7) ⟨rfl, rfl⟩, aZ it, aF 1, take_zero 0 0 (S []), aX, aI, aL, bB it, aH 1, take_nil 0 0 (S []), bA, aK, aQ, hs, hp, bG 5 7 (by decide), aY⟩
  exact qZ l 6 it _ _ _ _ _ _ ⟨aS 6 7 [] (rs0 7), bL 6 7 [] _ (rs0 7) (by decide) (by decide) rfl, aO 6 7 1 34 [] [] (rs0 7) ⟨rfl, rfl⟩, aZ it, aF 1, take_zero 0 0 (S []), aX, aI, aL, bB it, aH 1, take_nil 0 0 (S []), bA, aK, aQ, hs, hp, bG 6 7 (by decide), aY⟩
  exact qZ l 7 it _ _ _ _ _ _ ⟨aS 7 7 [] (rs0 7), bL 7 7 [] _ (rs0 7) (by decide) (by decide) rfl, aO 7 7 1 34 [] [] (rs0 7) ⟨rfl, rfl⟩, aZ it, aF 1, take_zero 0 0 (S []), aX, aI, aL, bB it, aH 1, take_nil 0 0 (S []), bA, aK, aQ, hs, hp, bG 7 7 (by decide), aY⟩
  have ha : a = 1 ∨ a = 2 ∨ a = 3 ∨ a = 4 ∨ a = 5 ∨ a = 6 ∨ a = 7 ∨ a = 8 := by omega
  rcases ha with rfl | rfl | rfl | rfl | rfl | rfl | rfl | rfl
  exact o4 l 1 it _ _ _ _ _ _ _ ⟨aS 1 8 [] (rs0 8), bL 1 8 [] _ (rs0 8) (by decide) (by decide) rfl, aO 1 8 1 34 [] [] (rs0 8) ⟨rfl, rfl⟩, aZ it, aF 1, take_zero 0 0 (S []), aX, aI, aL, bB it, aH 1, take_nil 0 0 (S []), bA, aK, aQ, hs, hp, bG 1 8 (by decide), aY⟩
  exact o4 l 2 it _ _ _ _ _ _ _ ⟨aS 2 8 [] (rs0 8), bL 2 8 [] _ (rs0 8) (by decide) (by decide) rfl, aO 2 8 1 34 [] [] (rs0 8) ⟨rfl, rfl⟩, aZ it, aF 1, take_zero 0 0 (S []), aX, aI, aL, bB it, aH 1, take_nil 0 0 (S []), bA, aK, aQ, hs, hp, bG 2 8 (by decide), aY⟩
  exact o4 l 3 it _ _ _ _ _ _ _ ⟨aS 3 8 [] (rs0 8), bL 3 8 [] _ (rs0 8) (by decide) (by decide) rfl, aO 3 8 1 34 [] [] (rs0 8) ⟨rfl, rfl⟩, aZ it, aF 1, take_zero 0 0 (S []), aX, aI, aL, bB it, aH 1, take_nil 0 0 (S []), bA, aK, aQ, hs, hp, bG 3 8 (by decide), aY⟩
  exact o4 l 4 it _ _ _ _ _ _ _ ⟨aS 4 8 [] (rs0 8), bL 4 8 [] _ (rs0 8) (by decide) (by decide) rfl, aO 4 8 1 34 [] [] (rs0 8) ⟨rfl, rfl⟩, aZ it, aF 1, take_zero 0 0 (S []), aX, aI, aL, bB it, aH 1, take_nil 0 0 (S []), bA, aK, aQ, hs, hp, bG 4 8 (by decide), aY⟩
  exact o4 l 5 it _ _ _ _ _ _ _ ⟨aS 5 8 [] (rs0 8), bL 5 8 [] _ (rs0 8) (by decide) (by decide) rfl, aO 5 8 1 34 [] [] (rs0 8) ⟨rfl, rfl⟩, aZ it, aF 1, take_zero 0 0 (S []), aX, aI, aL, bB it, aH 1, take_nil 0 0 (S []), bA, aK, aQ, hs, hp, bG 5 8 (by decide), aY⟩
  exact o4 l 6 it _ _ _ _ _ _ _ ⟨aS 6 8 [] (rs0 8), bL 6 8 [] _ (rs0 8) (by decide) (by decide) rfl, aO 6 8 1 34 [] [] (rs0 8) ⟨rfl, rfl⟩, aZ it, aF 1, take_zero 0 0 (S []), aX, aI, aL, bB it, aH 1, take_nil 0 0 (S []), bA, aK, aQ, hs, hp, bG 6 8 (by decide), aY⟩
  exact o4 l 7 it _ _ _ _ _ _ _ ⟨aS 7 8 [] (rs0 8), bL 7 8 [] _ (rs0 8) (by decide) (by decide) rfl, aO 7 8 1 34 [] [] (rs0 8) ⟨rfl, rfl⟩, aZ it, aF 1, take_zero 0 0 (S []), aX, aI, aL, bB it, aH 1, take_nil 0 0 (S []), bA, aK, aQ, hs, hp, bG 7 8 (by decide), aY⟩
  exact o4 l 8 it _ _ _ _ _ _ _ ⟨aS 8 8 [] (rs0 8), bL 8 8 [] _ (rs0 8) (by decide) (by decide) rfl, aO 8 8 1 34 [] [] (rs0 8) ⟨rfl, rfl⟩, aZ it, aF 1, take_zero 0 0 (S []), aX, aI, aL, bB it, aH 1, take_nil 0 0 (S []), bA, aK, aQ, hs, hp, bG 8 8 (by decide), aY⟩
end Go.Proofs.YtclaplngjmgnoaaGreatDoor
