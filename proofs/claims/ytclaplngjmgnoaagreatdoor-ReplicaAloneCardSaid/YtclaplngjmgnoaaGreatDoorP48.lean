/- Part 48 of the proof: texts V34a. -/
import Derived.Test.YtclaplngjmgnoaaGreatDoorP29
import Derived.Test.YtclaplngjmgnoaaGreatDoorP34
import Derived.Test.YtclaplngjmgnoaaGreatDoorP45
import Derived.Test.YtclaplngjmgnoaaGreatDoorP47
set_option linter.all false
namespace Go.Proofs.YtclaplngjmgnoaaGreatDoor
open Go.RowKit Go.V
open Go.Eng (inR byteAt u8 dS)
variable {g : Gv}
theorem aFH (l : List It) (i : It) : aK l ++ [ItD i] = aK (l ++ [i]) := by rw [aK, aK, List.map_append]; rfl
def fZ := And.intro @List.length_map.{0, 0} (@blS)
def sQ := And.intro @List.length_cons.{0} (And.intro @List.length_map.{0, 0} (And.intro @List.length_nil.{0} (@Go.Eng.inR.eq_1)))
abbrev y41 : Ob := .box 73 [cI 1, cI 1, .mp 302]
theorem alone_ok (acts : List Ac) (hN : ∀ k, NumOk (acts.getD k Ac.z).l 0) (hL : acts.length <= 9223372036854775807) :
  SpG g 6 [.c (cM 4 (bH acts))] [] (.c (cB true)) [] := by
 refine aQ 127 Tryz.func6 (by kernel_rfl) fun fr hG => ?_
 refine zC hG [(1, 0, kB true), (2, 0, .callG (.c (.bx 100 0)) [] [(100, .box 73 [cI 1, cI 1, .mp 102]), (102, y32)])] [1, 0, 1, 1, 1] (false) (⟨[zM 0 4 (bH acts), zB 2 false, zB 3 true, zX 4 300 0], [(300, y41), (302, y32)]⟩) (cS2 g (aG9) (cS1 g (wY 1 1 (by decide)))) (fun hc1 => absurd hc1 (by decide)) (fun _ => ?_)
 refine zA hG [] [0, 1, 0, 1, 1, 1, 1, 1] (⟨[zM 0 4 (bH acts), zB 2 false, zB 3 true, zX 4 300 0, zN 5, zI 6 0], [(300, y41), (302, y32)]⟩) [(5, 9005, 63, 16)] [] (fun (zz : Nat × LD × List It × RS) => match zz with | (k, eb, li, es) => (acts.length - k, ⟨[zM 0 4 (bH acts), zB 2 false, zB 3 true, zX 4 300 0, zY 5 9005 0, zI 6 (k : Int)], [(300, y41), (302, mBQ es), (9005, .arr 0 63 16 (eb))]⟩, k <= acts.length /\ k <= 30 /\ eb = aK li /\ AlOk k li es)) (0, [], [], []) aC ?_ ?_
 exact ⟨Nat.zero_le _, Nat.zero_le _, rfl, al_0⟩
 rintro ⟨k, eb, li, es⟩ ⟨hka, hk3, heb, hal⟩
 obtain ⟨it, hit, hid, hau, hs⟩ := aEC (g := g) (acts.getD k Ac.z).what (acts.getD k Ac.z).who (acts.getD k Ac.z).n 1 (acts.getD k Ac.z).l (hN k) ⟨by decide, by decide⟩
 have hll := hal.ll
 have hel : eb.length <= 30 := by rw [heb, aK, List.length_map]; omega
 refine zc hG [] [1, 0] ((decide (((k : Int) : Int) < ((bH acts).length : Int))) && (decide (((k : Int) : Int) < 30))) aC (fun hc3 => ?_) (fun hc3 => ?_)
 (try simp only [fZ, bH, aK] at hc3)
 refine zC hG [(9, 2, .elem (AcD (acts.getD k Ac.z))), (9, 4, kC (.agg [cI ((it).id), cI ((it).author), cI ((it).rank), cI ((it).time), cI ((it).kind), cM 7 (aI ((it).input)), cI (tvK ((it).output)), cS (S (tvS ((it).output))), cI 0, cI 0, cI 0, cM 1 ([] : LD), cM 1 ([] : LD), cS (S (it).prop), cS (S (it).param), cM 1 (intsD ((it).program))])), (10, 2, .elem (AcD (acts.getD k Ac.z)))] [1, 0, 1, 0, 0, 1] (decide ((Int.tmod ((acts.getD k Ac.z).what) 3 : Int) > 0)) (⟨[zM 0 4 (bH acts), zB 2 false, zB 3 true, zX 4 300 0, zY 5 9005 0, zI 6 (k : Int), zX 7 1005 0], [(300, y41), (302, mBQ es), (1005, .box 63 [cI ((it).id), cI ((it).author), cI ((it).rank), cI ((it).time), cI ((it).kind), cM 7 (aI ((it).input)), cI (tvK ((it).output)), cS (S (tvS ((it).output))), cI 0, cI 0, cI 0, cM 1 ([] : LD), cM 1 ([] : LD), cS (S (it).prop), cS (S (it).param), cM 1 (intsD ((it).program))]), (9005, .arr 0 63 16 (eb))]⟩) (aA (by intros; exact cH (f := AcD) Ac.z (by omega) (by (try simp only [bH, List.length_map] at *); omega) : (0 : Int) <= (k : Int) /\ (bH acts)[k]? = some (AcD (acts.getD k Ac.z))) (cS2 g (hs) (aA (by intros; exact cH (f := AcD) Ac.z (by omega) (by (try simp only [bH, List.length_map] at *); omega) : (0 : Int) <= (k : Int) /\ (bH acts)[k]? = some (AcD (acts.getD k Ac.z))) (aB (by intros; (try simp only [sQ, bH, aK] at *); omega : 3 ≠ (0 : Int)))))) (fun hc4 => ?_) (fun hc4 => ?_)
 (try simp only [fZ, bH, aK] at hc4)
 refine zC hG [(11, 2, .callG (.c (cI (cV 1 es it))) [300, 302] [(0, .box 73 [cI 1, cI 1, .mp 1]), (1, mBQ (dY 1 es it))])] [1, 0, 1, 0, 1, 0, 1, 0, 0, 1] (decide ((cV 1 es it : Int) = 0)) (⟨[zM 0 4 (bH acts), zB 2 false, zB 3 true, zX 4 300 0, zY 5 9005 0, zI 6 (k : Int), zX 7 1005 0, zI 8 (cV 1 es it)], [(300, y41), (302, mBQ (dY 1 es it)), (1005, .box 63 [cI ((it).id), cI ((it).author), cI ((it).rank), cI ((it).time), cI ((it).kind), cM 7 (aI ((it).input)), cI (tvK ((it).output)), cS (S (tvS ((it).output))), cI 0, cI 0, cI 0, cM 1 ([] : LD), cM 1 ([] : LD), cS (S (it).prop), cS (S (it).param), cM 1 (intsD ((it).program))]), (9005, .arr 0 63 16 (eb))]⟩) (cS1 g (aFS 1 1 es it hal.rs hit)) (fun hc5 => ?_) (fun hc5 => ?_)
 (try simp only [fZ, bH, aK] at hc5)
 have hg0 := hc5
 refine zC hG [] [1, 0, 1, 1, 0, 1, 0, 1, 0, 0, 1] ((!decide ((cV 1 es it : Int) = 0)) && (!decide ((cV 1 es it : Int) = 33))) (⟨[zM 0 4 (bH acts), zB 2 false, zB 3 true, zX 4 300 0, zY 5 9005 0, zI 6 (k : Int), zX 7 1005 0], [(300, y41), (302, mBQ (dY 1 es it)), (1005, .box 63 [cI ((it).id), cI ((it).author), cI ((it).rank), cI ((it).time), cI ((it).kind), cM 7 (aI ((it).input)), cI (tvK ((it).output)), cS (S (tvS ((it).output))), cI 0, cI 0, cI 0, cM 1 ([] : LD), cM 1 ([] : LD), cS (S (it).prop), cS (S (it).param), cM 1 (intsD ((it).program))]), (9005, .arr 0 63 16 (eb ++ ([[.i ((it).id), .i ((it).author), .i ((it).rank), .i ((it).time), .i ((it).kind), .sl 7 (aI ((it).input)), .i (tvK ((it).output)), .s (S (tvS ((it).output))), .i 0, .i 0, .i 0, .sl 1 ([] : LD), .sl 1 ([] : LD), .s (S (it).prop), .s (S (it).param), .sl 1 (intsD ((it).program))]] : LD)))]⟩) (aB (by intros; (try simp only [sQ, bH, aK] at *); omega : ((eb).length + ([[.i ((it).id), .i ((it).author), .i ((it).rank), .i ((it).time), .i ((it).kind), .sl 7 (aI ((it).input)), .i (tvK ((it).output)), .s (S (tvS ((it).output))), .i 0, .i 0, .i 0, .sl 1 ([] : LD), .sl 1 ([] : LD), .s (S (it).prop), .s (S (it).param), .sl 1 (intsD ((it).program))]] : LD).length) * (216 + 1) <= 140737488355328)) (fun hc6 => ?_) (fun hc6 => ?_)
 (try simp only [fZ, bH, aK] at hc6)
 rcases pX hal (by omega) hit hau with ⟨e1, e2⟩ | ⟨e1, e2⟩ <;> simp [e1] at hc6
 (try simp only [fZ, bH, aK] at hc6)
 refine zD hG [] (k + 1, eb ++ ([[.i ((it).id), .i ((it).author), .i ((it).rank), .i ((it).time), .i ((it).kind), .sl 7 (aI ((it).input)), .i (tvK ((it).output)), .s (S (tvS ((it).output))), .i 0, .i 0, .i 0, .sl 1 (([] : LD)), .sl 1 (([] : LD)), .s (S (it).prop), .s (S (it).param), .sl 1 (intsD ((it).program))]] : LD), li ++ [it], dY 1 es it) (aB (by intros; (try simp only [sQ, bH, aK] at *); omega : inR ((k : Int) + 1))) ?_ ?_
 (try dsimp only); omega
 refine ⟨by omega, by omega, by rw [heb]; exact aFH li it, ?_⟩
 rcases pX hal (by omega) hit hau with ⟨e1, e2⟩ | ⟨e1, e2⟩
 exact e2
 rw [e1] at hg0; omega
 (try simp only [fZ, bH, aK] at hc5)
 have hg0 := hc5
 refine zC hG [] [1, 0, 1, 1, 0, 1, 0, 1, 0, 0, 1] ((!decide ((cV 1 es it : Int) = 0)) && (!decide ((cV 1 es it : Int) = 33))) (⟨[zM 0 4 (bH acts), zB 2 false, zB 3 true, zX 4 300 0, zY 5 9005 0, zI 6 (k : Int), zX 7 1005 0], [(300, y41), (302, mBQ (dY 1 es it)), (1005, .box 63 [cI ((it).id), cI ((it).author), cI ((it).rank), cI ((it).time), cI ((it).kind), cM 7 (aI ((it).input)), cI (tvK ((it).output)), cS (S (tvS ((it).output))), cI 0, cI 0, cI 0, cM 1 ([] : LD), cM 1 ([] : LD), cS (S (it).prop), cS (S (it).param), cM 1 (intsD ((it).program))]), (9005, .arr 0 63 16 (eb))]⟩) aC (fun hc7 => ?_) (fun hc7 => ?_)
 (try simp only [fZ, bH, aK] at hc7)
 rcases pX hal (by omega) hit hau with ⟨e1, e2⟩ | ⟨e1, e2⟩ <;> simp [e1] at hc7
 (try simp only [fZ, bH, aK] at hc7)
 refine zD hG [] (k + 1, eb, li, dY 1 es it) (aB (by intros; (try simp only [sQ, bH, aK] at *); omega : inR ((k : Int) + 1))) ?_ ?_
 (try dsimp only); omega
 refine ⟨by omega, by omega, heb, ?_⟩
 rcases pX hal (by omega) hit hau with ⟨e1, e2⟩ | ⟨e1, e2⟩
 exact absurd e1 hg0
 exact e2
 (try simp only [fZ, bH, aK] at hc4)
 subst heb
 refine zA hG [] [0, 1, 0, 1, 1, 1, 1, 0, 0, 1] (⟨[zM 0 4 (bH acts), zB 2 false, zB 3 true, zX 4 300 0, zY 5 9005 0, zI 6 (k : Int), zX 7 1005 0, zB 9 false, zN 10, zY 57 9005 0, zI 58 ((aK li).length : Int), zI 59 0], [(300, y41), (302, mBQ es), (1005, .box 63 [cI ((it).id), cI ((it).author), cI ((it).rank), cI ((it).time), cI ((it).kind), cM 7 (aI ((it).input)), cI (tvK ((it).output)), cS (S (tvS ((it).output))), cI 0, cI 0, cI 0, cM 1 ([] : LD), cM 1 ([] : LD), cS (S (it).prop), cS (S (it).param), cM 1 (intsD ((it).program))]), (9005, .arr 0 63 16 (aK li))]⟩) [(10, 9010, 63, 16)] [] (fun (zz : Nat × Bool × LD) => match zz with | (j, sm, rb) => (li.length - j, ⟨[zM 0 4 (bH acts), zB 2 false, zB 3 true, zX 4 300 0, zY 5 9005 0, zI 6 (k : Int), zX 7 1005 0, zB 9 sm, zY 10 9010 0, zY 57 9005 0, zI 58 ((aK li).length : Int), zI 59 (j : Int)], [(300, y41), (302, mBQ es), (1005, .box 63 [cI ((it).id), cI ((it).author), cI ((it).rank), cI ((it).time), cI ((it).kind), cM 7 (aI ((it).input)), cI (tvK ((it).output)), cS (S (tvS ((it).output))), cI 0, cI 0, cI 0, cM 1 ([] : LD), cM 1 ([] : LD), cS (S (it).prop), cS (S (it).param), cM 1 (intsD ((it).program))]), (9005, .arr 0 63 16 (aK li)), (9010, .arr 0 63 16 (rb))]⟩, j <= li.length /\ sm = oS it.id (li.take j) /\ rb = aK (kA it.id (li.take j)))) (0, false, []) aC ?_ ?_
 exact ⟨Nat.zero_le _, rfl, rfl⟩
 rintro ⟨j, sm, rb⟩ ⟨hj, hsm, hrb⟩
 have hrl : rb.length <= 30 := by rw [hrb, aK, List.length_map]; have := List.length_filter_le (fun x : It => !decide (x.id = it.id)) (li.take j); rw [List.length_take] at this; unfold kA; omega
 refine zc hG [] [0, 1] (decide (((j : Int) : Int) < ((aK li).length : Int))) aC (fun hc9 => ?_) (fun hc9 => ?_)
 (try simp only [fZ, bH, aK] at hc9)
 refine zC hG [(20, 1, .elem (ItD ((li).getD j It.z)))] [1, 1, 0, 0, 1, 1] (decide ((((li).getD j It.z).id : Int) = ((it).id))) (⟨[zM 0 4 (bH acts), zB 2 false, zB 3 true, zX 4 300 0, zY 5 9005 0, zI 6 (k : Int), zX 7 1005 0, zB 9 sm, zY 10 9010 0, zX 12 2102 0, zY 57 9005 0, zI 58 ((aK li).length : Int), zI 59 (j : Int)], [(300, y41), (302, mBQ es), (1005, .box 63 [cI ((it).id), cI ((it).author), cI ((it).rank), cI ((it).time), cI ((it).kind), cM 7 (aI ((it).input)), cI (tvK ((it).output)), cS (S (tvS ((it).output))), cI 0, cI 0, cI 0, cM 1 ([] : LD), cM 1 ([] : LD), cS (S (it).prop), cS (S (it).param), cM 1 (intsD ((it).program))]), (2102, .box 63 [cI (((li).getD j It.z).id), cI (((li).getD j It.z).author), cI (((li).getD j It.z).rank), cI (((li).getD j It.z).time), cI (((li).getD j It.z).kind), cM 7 (aI (((li).getD j It.z).input)), cI (tvK (((li).getD j It.z).output)), cS (S (tvS (((li).getD j It.z).output))), cI 0, cI 0, cI 0, cM 1 ([] : LD), cM 1 ([] : LD), cS (S ((li).getD j It.z).prop), cS (S ((li).getD j It.z).param), cM 1 (intsD (((li).getD j It.z).program))]), (9005, .arr 0 63 16 (aK li)), (9010, .arr 0 63 16 (rb))]⟩) (aA (by intros; (try simp only [sQ, bH, aK] at *); omega : (0 : Int) <= (j : Int) /\ (j : Int) < ((aK li).length : Int)) (aB (by intros; exact jU (f := ItD) (l := li) It.z (by omega) : (aK li)[j]? = some (ItD ((li).getD j It.z))))) (fun hc10 => ?_) (fun hc10 => ?_)
 (try simp only [fZ, bH, aK] at hc10)
 have hc0 := hc10
 refine zD hG [] (j + 1, true, rb) (aB (by intros; (try simp only [sQ, bH, aK] at *); omega : inR ((j : Int) + 1))) ?_ ?_
 (try dsimp only); omega
 exact ⟨by omega, by rw [tE (by omega), if_pos hc0], by rw [tM (by omega), if_pos hc0]; exact hrb⟩
 (try simp only [fZ, bH, aK] at hc10)
 have hc0 := hc10
 refine zD hG [] (j + 1, sm, rb ++ ([[.i (((li).getD j It.z).id), .i (((li).getD j It.z).author), .i (((li).getD j It.z).rank), .i (((li).getD j It.z).time), .i (((li).getD j It.z).kind), .sl 7 (aI (((li).getD j It.z).input)), .i (tvK (((li).getD j It.z).output)), .s (S (tvS (((li).getD j It.z).output))), .i 0, .i 0, .i 0, .sl 1 (([] : LD)), .sl 1 (([] : LD)), .s (S ((li).getD j It.z).prop), .s (S ((li).getD j It.z).param), .sl 1 (intsD (((li).getD j It.z).program))]] : LD)) (aA (by intros; (try simp only [sQ, bH, aK] at *); omega : ((rb).length + (([[.i (((li).getD j It.z).id), .i (((li).getD j It.z).author), .i (((li).getD j It.z).rank), .i (((li).getD j It.z).time), .i (((li).getD j It.z).kind), .sl 7 (aI (((li).getD j It.z).input)), .i (tvK (((li).getD j It.z).output)), .s (S (tvS (((li).getD j It.z).output))), .i 0, .i 0, .i 0, .sl 1 (([] : LD)), .sl 1 (([] : LD)), .s (S ((li).getD j It.z).prop), .s (S ((li).getD j It.z).param), .sl 1 (intsD (((li).getD j It.z).program))]] : LD)).length) * (216 + 1) <= 140737488355328) (aB (by intros; (try simp only [sQ, bH, aK] at *); omega : inR ((j : Int) + 1)))) ?_ ?_
 (try dsimp only); omega
 exact ⟨by omega, by rw [tE (by omega), if_neg hc0]; exact hsm, by rw [tM (by omega), if_neg hc0, hrb]; exact aFH _ _⟩
 (try simp only [fZ, bH, aK] at hc9)
 have hje : j = li.length := by (try simp only [aK, List.length_map] at *); omega
 rw [hje, List.take_length] at hsm hrb
 refine zE hG [] (.exit 2) (⟨[zM 0 4 (bH acts), zB 2 false, zB 3 true, zX 4 300 0, zY 5 9005 0, zI 6 (k : Int), zX 7 1005 0, zB 9 sm, zY 10 9010 0], [(300, y41), (302, mBQ es), (1005, .box 63 [cI ((it).id), cI ((it).author), cI ((it).rank), cI ((it).time), cI ((it).kind), cM 7 (aI ((it).input)), cI (tvK ((it).output)), cS (S (tvS ((it).output))), cI 0, cI 0, cI 0, cM 1 ([] : LD), cM 1 ([] : LD), cS (S (it).prop), cS (S (it).param), cM 1 (intsD ((it).program))]), (9005, .arr 0 63 16 (aK li)), (9010, .arr 0 63 16 (rb))]⟩) aC rfl ?_
 refine zC hG [(25, 3, .callG (.c (cI (wdE it.id es))) [300, 302] [(0, .box 73 [cI 1, cI 1, .mp 1]), (1, mBQ (wdR it.id es))])] [1, 0, 1, 1, 1, 1, 1, 0, 0, 1] (!((decide ((wdE it.id es : Int) = 0)) == sm)) (⟨[zM 0 4 (bH acts), zB 2 false, zB 3 true, zX 4 300 0, zY 5 9005 0, zI 6 (k : Int), zY 10 9010 0], [(300, y41), (302, mBQ (wdR it.id es)), (9005, .arr 0 63 16 (aK li)), (9010, .arr 0 63 16 (rb))]⟩) (cS1 g (oK 1 1 it.id es hal.rs)) (fun hc11 => ?_) (fun hc11 => ?_)
 (try simp only [fZ, bH, aK] at hc11)
 have hw := (wd_al it.id hal).1; rw [hw, <- hsm] at hc11; simp at hc11
 (try simp only [fZ, bH, aK] at hc11)
 refine iP hG (⟨[zM 0 4 (bH acts), zB 2 false, zB 3 true, zX 4 300 0, zI 6 (k : Int), zY 10 9010 0], [(300, y41), (302, mBQ (wdR it.id es)), (9010, .arr 0 63 16 (rb))]⟩) (by kernel_rfl) ?_
 refine stepMv hG 9010 9005 (⟨[zM 0 4 (bH acts), zB 2 false, zB 3 true, zX 4 300 0, zI 6 (k : Int), zY 10 9005 0], [(300, y41), (302, mBQ (wdR it.id es)), (9005, .arr 0 63 16 (rb))]⟩) (by kernel_rfl) ?_
 refine zD hG [] (k + 1, rb, kA it.id li, wdR it.id es) (aB (by intros; (try simp only [sQ, bH, aK] at *); omega : inR ((k : Int) + 1))) ?_ ?_
 (try dsimp only); omega
 exact ⟨by omega, by omega, hrb, (wd_al it.id hal).2⟩
 (try simp only [fZ, bH, aK] at hc3)
 refine zE hG [] (.exit 0) (⟨[zB 2 false, zB 3 true, zX 4 300 0, zY 5 9005 0], [(300, y41), (302, mBQ es), (9005, .arr 0 63 16 (eb))]⟩) aC rfl ?_
 refine iP hG (⟨[zB 2 false, zB 3 true, zX 4 300 0, zM 5 16 (eb)], [(300, y41), (302, mBQ es)]⟩) (by kernel_rfl) ?_
 refine zC hG [(28, 1, kC (.c (cM 16 (aK (inF li))))), (28, 3, .callG (.c (cM 16 (aK (inF (bA es))))) [300, 302] ((99999, .box 0 []) :: [(0, .box 73 [cI 1, cI 1, .mp 1]), (1, mBQ es)])), (29, 7, .callG (.c (cM 3 ([] : LD))) [300, 302] ((99999, .box 0 []) :: [(0, .box 73 [cI 1, cI 1, .mp 1]), (1, mBQ es)]))] [1, 0, 1, 1, 1, 1, 1, 1, 1] ((!decide ((((aK (inF li)).length : Int) : Int) = ((aK (inF (bA es))).length : Int))) && true) (⟨[zB 2 false, zB 3 true, zM 13 16 (aK (inF li)), zM 14 16 (aK (inF (bA es)))], []⟩) (cS2 g (rK (l := li) (by have := hal.ll; omega) hal.ok (es := eb) heb) (aA (And.intro (And.intro (rfl : (some (y41) : Option Ob) = some (y41)) (And.intro (rfl : (some (mBQ es) : Option Ob) = some (mBQ es)) (trivial))) (rfl : true = true)) (cS2 g (rI 1 1 es hal.rs) (aA (fun (hg1 : (!decide ((((aK (inF li)).length : Int) : Int) = ((aK (inF (bA es))).length : Int))) = false) => (And.intro (And.intro (rfl : (some (y41) : Option Ob) = some (y41)) (And.intro (rfl : (some (mBQ es) : Option Ob) = some (mBQ es)) (trivial))) (rfl : true = true))) (aB (fun (hg1 : (!decide ((((aK (inF li)).length : Int) : Int) = ((aK (inF (bA es))).length : Int))) = false) => (vY 1 1 es [] hal.rs (by decide) (by decide) rfl : SpG g _ _ _ _ _))))))) (fun hc12 => ?_) (fun hc12 => ?_)
 (try simp only [fZ, bH, aK] at hc12)
 have he := (aD8 hal).1; (try simp only [aK, List.length_map] at hc12); omega
 (try simp only [fZ, bH, aK] at hc12)
 have hen := aD8 hal
 refine zL hG [] [0, 1, 0, 1, 1, 1, 1, 1, 1, 1, 1] (fun (zz : Nat) => match zz with | q => ((inF li).length - q, ⟨[zB 2 false, zB 3 true, zM 13 16 (aK (inF li)), zM 14 16 (aK (inF (bA es))), zI 97 ((aK (inF li)).length : Int), zI 98 (q : Int)], []⟩, q <= (inF li).length)) 0 aC ?_ ?_
 exact Nat.zero_le _
 rintro q hq
 have hfl : (inF li).length <= 30 := by rw [inF, List.length_map]; have := aEK li; have := hal.ll; omega
 refine zc hG [] [0, 1] (decide (((q : Int) : Int) < ((aK (inF li)).length : Int))) aC (fun hc14 => ?_) (fun hc14 => ?_)
 (try simp only [fZ, bH, aK] at hc14)
 refine zc hG [(34, 2, .elem (ItD ((inF li).getD q It.z))), (34, 7, .elem (ItD ((inF (bA es)).getD q It.z))), (34, 14, .elem (ItD ((inF li).getD q It.z))), (34, 19, .elem (ItD ((inF (bA es)).getD q It.z)))] [1, 1, 0, 0, 1, 1] ((!decide ((((inF li).getD q It.z).id : Int) = (((inF (bA es)).getD q It.z).id))) || (!decide ((((inF li).getD q It.z).time : Int) = (((inF (bA es)).getD q It.z).time)))) (aA (by intros; exact cH (f := ItD) It.z (by omega) (by (try simp only [aK, List.length_map] at *); omega) : (0 : Int) <= (q : Int) /\ (aK (inF li))[q]? = some (ItD ((inF li).getD q It.z))) (aA (by intros; exact cH (f := ItD) It.z (by omega) (by (try simp only [aK, List.length_map] at *); omega) : (0 : Int) <= (q : Int) /\ (aK (inF (bA es)))[q]? = some (ItD ((inF (bA es)).getD q It.z))) (aA (by intros; exact cH (f := ItD) It.z (by omega) (by (try simp only [aK, List.length_map] at *); omega) : (!decide ((((inF li).getD q It.z).id : Int) = (((inF (bA es)).getD q It.z).id))) = false -> (0 : Int) <= (q : Int) /\ (aK (inF li))[q]? = some (ItD ((inF li).getD q It.z))) (aB (by intros; exact cH (f := ItD) It.z (by omega) (by (try simp only [aK, List.length_map] at *); omega) : (!decide ((((inF li).getD q It.z).id : Int) = (((inF (bA es)).getD q It.z).id))) = false -> (0 : Int) <= (q : Int) /\ (aK (inF (bA es)))[q]? = some (ItD ((inF (bA es)).getD q It.z))))))) (fun hc15 => ?_) (fun hc15 => ?_)
 (try simp only [fZ, bH, aK] at hc15)
 have he := (aD8 hal).2 q; (try simp only [Int.toNat_natCast] at *); omega
 (try simp only [fZ, bH, aK] at hc15)
 refine zD hG [] (q + 1) (aB (by intros; (try simp only [sQ, bH, aK] at *); omega : inR ((q : Int) + 1))) ?_ ?_
 (try dsimp only); omega
 omega
 (try simp only [fZ, bH, aK] at hc14)
 refine zE hG [] (.exit 4) (⟨[zB 2 false, zB 3 true], []⟩) aC rfl ?_
 refine iO hG cA [] [] (.c (cB true)) [] (by kernel_rfl) aC ?_ ?_
 rfl
 first | rfl | (funext i; simp only [aO, upd]; ((repeat' split) <;> first | rfl | (exfalso; omega)))
end Go.Proofs.YtclaplngjmgnoaaGreatDoor
