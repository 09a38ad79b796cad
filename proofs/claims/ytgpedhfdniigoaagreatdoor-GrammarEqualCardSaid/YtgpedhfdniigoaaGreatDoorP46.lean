/- Part 46 of the proof. -/
import Derived.Test.YtgpedhfdniigoaaGreatDoorP41
import Derived.Test.YtgpedhfdniigoaaGreatDoorP42
import Derived.Test.YtgpedhfdniigoaaGreatDoorP43
import Derived.Test.YtgpedhfdniigoaaGreatDoorP44
import Derived.Test.YtgpedhfdniigoaaGreatDoorP45
set_option linter.all false
namespace Go.Proofs.YtgpedhfdniigoaaGreatDoor
open Go.RowKit Go.V
open Go.Eng (inR byteAt u8 dD)
variable {g : Gv}
theorem aIE {s : Int} (h : 0 <= s /\ s < 6) : SpG g 32 [.c (cI s)] [] (.c (cS (S (smT s)))) [] := by
 rcases six h with rfl | rfl | rfl | rfl | rfl | rfl
 exact sample0
 exact sample1
 exact sample2
 exact sample3
 exact sample4
 exact sample5
theorem aKZ {s : Int} (h : 0 <= s /\ s < 6) : SpG g 31 [.c (cS (S (smT s)))] [] (.tup [(true,grC (smG s)),(false,[cI 0]),(false,[cI 0])]) [] := by
 rcases six h with rfl | rfl | rfl | rfl | rfl | rfl
 exact smp0
 exact smp1
 exact smp2
 exact smp3
 exact smp4
 exact smp5
theorem aHW {α : Type} {f : α -> List D} {z : α} {l : List α} {e : LD} {n : Nat} (h : e = l.map f) (hn : n < l.length) : e[n]? = some (f (l.getD n z)) := by subst h; simp [gd,hn]
theorem q7 : SpG g 28 [.c (cM 1 [])] [] (.c (cM 3 aN)) [] := base_nil
def wO (l : List Sy) (n : Nat) (f : Int -> Int) : List Sy := l.set n { l.getD n Sy.z with mx := f (l.getD n Sy.z).mx }
def cY (a : Gr) (w h : Int) : Gr :=
 if w = 1 then { a with rs := a.rs.take (h.tmod a.rs.length).toNat ++ a.rs.drop ((h.tmod a.rs.length).toNat + 1) }
 else if w = 2 then { a with ss := wO a.ss (h.tmod a.ss.length).toNat fun x => if x - 1 > 1 then x - 1 else 1 }
 else if w = 3 then { a with ss := wO a.ss (h.tmod a.ss.length).toNat fun x => if x + 1 < 5 then x + 1 else 5 }
 else a
def aGR (l : List Int) (p : Gr × Int) : Gr × Int :=
 let x := cY p.1 (nxV l p.2 4) (nxV l (nxK l p.2 4) 40)
 (if (bU x).2 = 0 then x else p.1,nxK l (nxK l p.2 4) 40)
def o5 (l : List Int) : Nat -> Gr × Int
 | 0 => (smG (nxV l 0 6),nxK l 0 6)
 | k + 1 => aGR l (o5 l k)
def jD (l : List Int) : Gr := (o5 l 3).1
theorem aGN (l : List Sy) (n : Nat) (f : Int -> Int) : (wO l n f).map (fun x => (x.nm,x.kd)) = l.map (fun x => (x.nm,x.kd)) := by
 apply List.ext_getElem?
 intro i
 simp only [wO,List.getElem?_map,List.getElem?_set]
 by_cases h : n = i
 subst h
 by_cases hn : n < l.length
 simp [hn,gd]
 simp [hn]
 simp [h]
theorem aGO {l : List Sy} {n : Nat} {f : Int -> Int} (h : ∀ x ∈ l,1 <= x.mx /\ x.mx <= 5) (hf : ∀ x,1 <= x /\ x <= 5 -> 1 <= f x /\ f x <= 5) : ∀ x ∈ wO l n f,1 <= x.mx /\ x.mx <= 5 := by
 intro x hx
 by_cases hn : n < l.length
 rcases List.mem_or_eq_of_mem_set hx with h1 | rfl
 exact h x h1
 exact hf _ (h _ (bG hn))
 rw [wO,List.set_eq_of_length_le (by omega)] at hx; exact h x hx
theorem iO {b a : Gr} (h : Fam b a) (w i : Int) : Fam b (cY a w i) := by
 unfold cY
 split
 refine ⟨h.nm,h.ve,h.cs,h.st,h.sk,h.mx,List.Sublist.trans ?_ h.rs⟩
 rw [<- List.eraseIdx_eq_take_drop_succ]
 exact List.eraseIdx_sublist _ _
 split
 exact ⟨h.nm,h.ve,h.cs,h.st,by rw [aGN]; exact h.sk,aGO (f := fun x => if x - 1 > 1 then x - 1 else 1) h.mx (fun x hx => by split <;> omega),h.rs⟩
 split
 exact ⟨h.nm,h.ve,h.cs,h.st,by rw [aGN]; exact h.sk,aGO (f := fun x => if x + 1 < 5 then x + 1 else 5) h.mx (fun x hx => by split <;> omega),h.rs⟩
 exact h
theorem aJV {b : Gr} (hb : Base b) {l : List Int} {p : Gr × Int} (h : Fam b p.1 /\ p.1.rs ≠ []) : Fam b (aGR l p).1 /\ (aGR l p).1.rs ≠ [] := by
 simp only [aGR]
 split
 rename_i hc
 refine ⟨iO h.1 _ _,aMM (fun e => ?_) hc⟩
 have := (iO h.1 (nxV l p.2 4) (nxV l (nxK l p.2 4) 40)).len
 rw [e] at this
 have := hb.sn
 simp at *; omega
 exact h
theorem fF (l : List Int) : ∀ k,Fam (smG (nxV l 0 6)) (o5 l k).1 /\ (o5 l k).1.rs ≠ []
 | 0 => ⟨Fam.self (base_of (lN l 0 (by decide))),(base_of (lN l 0 (by decide))).ne⟩
 | k + 1 => aJV (base_of (lN l 0 (by decide))) (fF l k)
theorem copy_es {b a : Gr} (hb : Base b) (h : Fam b a) {e2 e3 : LD} (h2 : e2 = aA a.ss) (h3 : e3 = aB a.rs) :
  SpG g 24 [y1 (S b.nm) b.ve (aC b.cs) e2 e3 b.st] [] (y3 (S b.nm) b.ve b.st) [(100,.arr 0 75 2 (aC b.cs)),(102,.arr 0 51 3 e2),(103,.arr 0 66 4 e3)] := by
 subst h2; subst h3
 have := oI (g := g) a (h.small hb)
 rw [h.nm,h.ve,h.cs,h.st] at this
 exact this
theorem nG {s : Int} (hs : 0 <= s /\ s < 6) {x : Gr} (h : Fam (smG s) x) {e2 e3 : LD} (h2 : e2 = aA x.ss) (h3 : e3 = aB x.rs) :
  SpG g 34 [.agg [cS (S (smG s).nm),.d (.i (smG s).ve),cM 2 (aC (smG s).cs),cM 3 e2,cM 4 e3,.d (.i (smG s).st)],.c (cM 3 aN)] [] (.tup [(false,[.d (.i (bU x).1)]),(false,[.d (.i (bU x).2)])]) [] := by
 subst h2; subst h3
 have := aJB (g := g) hs h
 unfold grC at this
 rw [h.nm,h.ve,h.cs,h.st] at this
 exact this
theorem aHU {a : Gr} {w i : Int} (h : w = 1) : cY a w i = { a with rs := a.rs.take (i.tmod a.rs.length).toNat ++ a.rs.drop ((i.tmod a.rs.length).toNat + 1) } := by unfold cY; rw [if_pos h]
theorem aHT {a : Gr} {w i : Int} (h1 : ¬ w = 1) (h : w = 2) : cY a w i = { a with ss := wO a.ss (i.tmod a.ss.length).toNat fun x => if x - 1 > 1 then x - 1 else 1 } := by unfold cY; rw [if_neg h1,if_pos h]
theorem aHS {a : Gr} {w i : Int} (h1 : ¬ w = 1) (h2 : ¬ w = 2) (h : w = 3) : cY a w i = { a with ss := wO a.ss (i.tmod a.ss.length).toNat fun x => if x + 1 < 5 then x + 1 else 5 } := by unfold cY; rw [if_neg h1,if_neg h2,if_pos h]
theorem aHV {a : Gr} {w i : Int} (h1 : ¬ w = 1) (h2 : ¬ w = 2) (h : ¬ w = 3) : cY a w i = a := by unfold cY; rw [if_neg h1,if_neg h2,if_neg h]
theorem aME {e3 : LD} {rs : List Rl} (h : e3 = aB rs) {i : Int} (hi : 0 <= i) :
  e3.take ((i.tmod (e3.length : Int)).toNat - (0 : Int).toNat) ++ ((e3.drop (i.tmod (e3.length : Int) + 1).toNat).take ((e3.length : Int).toNat - (i.tmod (e3.length : Int) + 1).toNat)) = aB (rs.take (i.tmod rs.length).toNat ++ rs.drop ((i.tmod rs.length).toNat + 1)) := by
 subst h
 have hl : (aB rs).length = rs.length := by simp [aB]
 have hn : 0 <= i.tmod (rs.length : Int) := Int.tmod_nonneg _ hi
 rw [hl,show (0 : Int).toNat = 0 from rfl,Nat.sub_zero,show (i.tmod (rs.length : Int) + 1).toNat = (i.tmod (rs.length : Int)).toNat + 1 by omega,tl (l := (aB rs).drop ((i.tmod (rs.length : Int)).toNat + 1)) (by rw [List.length_drop,hl]; omega)]
 simp [aB,List.map_take,List.map_drop]
theorem wP {e2 : LD} {ss : List Sy} (h : e2 = aA ss) (n : Nat) (f : Int -> Int) : e2.set n (aI (SyD (ss.getD n Sy.z)) 2 [.i (f (ss.getD n Sy.z).mx)]) = aA (wO ss n f) := by
 subst h
 show (ss.map SyD).set n _ = (ss.set n _).map SyD
 rw [List.map_set]
 rfl
theorem eX {l : List Int} {k : Nat} {a : Gr} {q : Int} (h : o5 l k = (a,q)) : o5 l (k + 1) = (if (bU (cY a (nxV l q 4) (nxV l (nxK l q 4) 40))).2 = 0 then cY a (nxV l q 4) (nxV l (nxK l q 4) 40) else a,nxK l (nxK l q 4) 40) := by
 rw [o5,h]; rfl
abbrev y50 (a0 : ByteArray) (a1 : Int) (a2 : Int) : Ob := .box 30 [cS a0,cI a1,.ar 901 0,.ar 903 0,.ar 904 0,cI a2]
abbrev e12z (a0 : LD) (a1 : Int) (a2 : ByteArray) (a3 : Int) (a4 : LD) (a5 : LD) (a6 : LD) (a7 : Int) (a8 : LD) (a9 : LD) : bR := [(100,y4),(202,y10 a0 a1),(307,y2 a2 a3 a4 a5 a6 a7),(901,y5 a4),(902,y50 a2 a3 a7),(903,.arr 0 51 3 a8),(904,.arr 0 66 4 a9)]
abbrev e13z (a0 : Int) : cO := [zX 2 100 0,zX 3 202 0,zX 4 307 0,zI 7 a0]
theorem made_ok (l : List Int) (hN : NumOk l 0) :
  SpG g 11 [.c (cM 1 (intsD l))] [] (y1 (S (smG (nxV l 0 6)).nm) ((smG (nxV l 0 6)).ve) (aC ((smG (nxV l 0 6)).cs)) (aA ((jD l).ss)) (aB ((jD l).rs)) ((smG (nxV l 0 6)).st)) [] := by
 have h06 := lN l 0 (n := 6) (by decide)
 have hb := base_of h06
 refine aQ 102 Tryz.func11 fun fr hG => ?_
 refine zL hG [(2,0,.call (.c (cI (nxV l 0 6))) [] [[.sl 1 (intsD l),.i (nxK l 0 6)]]),(2,1,kS (S (smT (nxV l 0 6)))),(2,2,kC (.tup [(true,[cS (S (smG (nxV l 0 6)).nm),cI ((smG (nxV l 0 6)).ve),cM 2 (aC ((smG (nxV l 0 6)).cs)),cM 3 (aA ((smG (nxV l 0 6)).ss)),cM 4 (aB ((smG (nxV l 0 6)).rs)),cI ((smG (nxV l 0 6)).st)]),(false,[cI 0]),(false,[cI 0])]))] [0,1,0,1,1,1] (fun (zz : Nat × Int × Gr × LD × LD) => match zz with | (k,q,a,e2,e3) => (3 - k,⟨e13z (k : Int),[(100,y4),(202,y10 (intsD l) q),(307,y2 (S (smG (nxV l 0 6)).nm) ((smG (nxV l 0 6)).ve) (aC ((smG (nxV l 0 6)).cs)) e2 e3 ((smG (nxV l 0 6)).st))]⟩,k <= 3 /\ NumOk l q /\ o5 l k = (a,q) /\ (Fam (smG (nxV l 0 6)) a /\ a.rs ≠ []) /\ e2 = aA a.ss /\ e3 = aB a.rs)) (0,nxK l 0 6,(smG (nxV l 0 6)),aA (smG (nxV l 0 6)).ss,aB (smG (nxV l 0 6)).rs) (cS2 g (aAC l 0 6 (by (repeat (first | assumption | apply NumOk.next))) (by decide)) (cS2 g (aIE h06) (cS1 g (aKZ h06)))) ?_ ?_
 ·exact ⟨zl _,hN.next 6,rfl,fF l 0,rfl,rfl⟩
 rintro ⟨k,q,a,e2,e3⟩ ⟨hk,hQ,hm,hf,he2,he3⟩
 have hl2 : e2.length = a.ss.length := by rw [he2,aA,lm]
 have hl3 : e3.length = a.rs.length := by rw [he3,aB,lm]
 have hsn := hf.1.len
 have hbs := hb.sn
 have hrn := List.length_pos_iff.2 hf.2
 have hR := hf.1.right hb
 have hrl := hR.rl
 have hH := lN l (nxK l q 4) (n := 40) (by decide)
 have hW := lN l q (n := 4) (by decide)
 refine zc hG [] [1,0] (decide ((k : Int) < 3)) aE (fun hc2 => ?_) (fun hc2 => ?_)
 ·(try simp only [zq0,aC,aA,aB] at hc2)
  refine zC hG [(6,0,.call (.c (cI (nxV l q 4))) [] [[.sl 1 (intsD l),.i (nxK l q 4)]]),(7,0,.call (.c (cI (nxV l (nxK l q 4) 40))) [] [[.sl 1 (intsD l),.i (nxK l (nxK l q 4) 40)]]),(8,1,.call (y3 (S (smG (nxV l 0 6)).nm) ((smG (nxV l 0 6)).ve) ((smG (nxV l 0 6)).st)) [(100,y5 (aC ((smG (nxV l 0 6)).cs))),(102,.arr 0 51 3 e2),(103,.arr 0 66 4 e3)] [])] [1,0,1,0,1,1,1,0,0,1] (decide ((nxV l q 4 : Int) = 1)) (⟨e13z (k : Int) ++ [zI 9 (nxV l (nxK l q 4) 40),zX 10 902 0,zI 33 (nxV l q 4)],e12z (intsD l) (nxK l (nxK l q 4) 40) (S (smG (nxV l 0 6)).nm) ((smG (nxV l 0 6)).ve) (aC ((smG (nxV l 0 6)).cs)) e2 e3 ((smG (nxV l 0 6)).st) e2 e3⟩) (cS2 g (aAC l q 4 (by (repeat (first | assumption | apply NumOk.next))) (by decide)) (cS2 g (aAC l (nxK l q 4) 40 (by (repeat (first | assumption | apply NumOk.next))) (by decide)) (cS1 g (copy_es hb hf.1 he2 he3)))) (fun hc3 => ?_) (fun hc3 => ?_)
  ·(try simp only [zq0,aC,aA,aB] at hc3)
   have hw1 := hc3
   have hn0 := Int.tmod_nonneg (e3.length : Int) hH.1
   have hn1 := Int.tmod_lt_of_pos (nxV l (nxK l q 4) 40) (b := (e3.length : Int)) (by omega)
   refine zC hG [(12,3,.mask []),(19,1,kC (.c (cM 3 aN))),(19,2,kC (y26 ((bU (cY a (nxV l q 4) (nxV l (nxK l q 4) 40))).1) ((bU (cY a (nxV l q 4) (nxV l (nxK l q 4) 40))).2)))] [1,1,1,1,1,1,0,0,1] (decide (((bU (cY a (nxV l q 4) (nxV l (nxK l q 4) 40))).2 : Int) = 0)) (⟨e13z (k : Int) ++ [zX 10 902 0],e12z (intsD l) (nxK l (nxK l q 4) 40) (S (smG (nxV l 0 6)).nm) ((smG (nxV l 0 6)).ve) (aC ((smG (nxV l 0 6)).cs)) e2 e3 ((smG (nxV l 0 6)).st) e2 (e3.take ((Int.tmod (nxV l (nxK l q 4) 40) (e3.length : Int) : Int).toNat - (0 : Int).toNat) ++ ((e3.drop (((Int.tmod (nxV l (nxK l q 4) 40) (e3.length : Int)) + 1 : Int).toNat)).take (((e3.length : Int) : Int).toNat - ((Int.tmod (nxV l (nxK l q 4) 40) (e3.length : Int)) + 1 : Int).toNat)))⟩) (aD (by intros; (try simp only [zq2,aC,aA,aB] at *); omega : (e3.length : Int) ≠ (0 : Int)) (aD (by intros; (try simp only [zq2,aC,aA,aB] at *); omega : (0 : Int) <= 0 /\ (0 : Int) <= (Int.tmod (nxV l (nxK l q 4) 40) (e3.length : Int)) /\ (Int.tmod (nxV l (nxK l q 4) 40) (e3.length : Int)) <= (e3.length : Int)) (aD (by intros; (try simp only [zq2,aC,aA,aB] at *); omega : inR ((Int.tmod (nxV l (nxK l q 4) 40) (e3.length : Int)) + 1)) (aD (by intros; (try simp only [zq2,aC,aA,aB] at *); omega : (0 : Int) <= ((Int.tmod (nxV l (nxK l q 4) 40) (e3.length : Int)) + 1) /\ ((Int.tmod (nxV l (nxK l q 4) 40) (e3.length : Int)) + 1 : Int) <= (e3.length : Int) /\ (e3.length : Int) <= (e3.length : Int)) (aD (by intros; (try simp only [zq2,aC,aA,aB] at *); omega : (((Int.tmod (nxV l (nxK l q 4) 40) (e3.length : Int) : Int).toNat - (0 : Int).toNat) + ((e3.drop (((Int.tmod (nxV l (nxK l q 4) 40) (e3.length : Int)) + 1 : Int).toNat)).take (((e3.length : Int) : Int).toNat - ((Int.tmod (nxV l (nxK l q 4) 40) (e3.length : Int)) + 1 : Int).toNat)).length) * (64 + 1) <= 140737488355328) (cS2 g (kL (ins := [.c cN]) [[some 1]] q7) (cS1 g (nG (x := (cY a (nxV l q 4) (nxV l (nxK l q 4) 40))) h06 (iO hf.1 _ _) (e2 := e2) (e3 := e3.take ((Int.tmod (nxV l (nxK l q 4) 40) (e3.length : Int) : Int).toNat - (0 : Int).toNat) ++ ((e3.drop (((Int.tmod (nxV l (nxK l q 4) 40) (e3.length : Int)) + 1 : Int).toNat)).take (((e3.length : Int) : Int).toNat - ((Int.tmod (nxV l (nxK l q 4) 40) (e3.length : Int)) + 1 : Int).toNat))) (by rw [aHU hw1]; exact he2) (by rw [aHU hw1]; exact aME he3 hH.1))))))))) (fun hc4 => ?_) (fun hc4 => ?_)
   ·(try simp only [zq0,aC,aA,aB] at hc4)
    have hce := hc4
    refine zD hG [] (k + 1,nxK l (nxK l q 4) 40,(cY a (nxV l q 4) (nxV l (nxK l q 4) 40)),e2,e3.take ((Int.tmod (nxV l (nxK l q 4) 40) (e3.length : Int) : Int).toNat - (0 : Int).toNat) ++ ((e3.drop (((Int.tmod (nxV l (nxK l q 4) 40) (e3.length : Int)) + 1 : Int).toNat)).take (((e3.length : Int) : Int).toNat - ((Int.tmod (nxV l (nxK l q 4) 40) (e3.length : Int)) + 1 : Int).toNat))) (aG (by intros; (try simp only [zq2,aC,aA,aB] at *); omega : inR ((k : Int) + 1))) ?_ ?_
    ·(try dsimp only); omega
    ·have hmm := eX hm
     rw [if_pos hce] at hmm
     have hff := fF l (k + 1)
     rw [hmm] at hff
     exact ⟨by omega,(hQ.next 4).next 40,hmm,hff,(by rw [aHU hw1]; exact he2),(by rw [aHU hw1]; exact aME he3 hH.1)⟩
   ·(try simp only [zq0,aC,aA,aB] at hc4)
    have hce := hc4
    refine zD hG [] (k + 1,nxK l (nxK l q 4) 40,a,e2,e3) (aG (by intros; (try simp only [zq2,aC,aA,aB] at *); omega : inR ((k : Int) + 1))) ?_ ?_
    ·(try dsimp only); omega
    ·have hmm := eX hm
     rw [if_neg hce] at hmm
     exact ⟨by omega,(hQ.next 4).next 40,hmm,hf,he2,he3⟩
  ·(try simp only [zq0,aC,aA,aB] at hc3)
   have hw1 := hc3
   refine zc hG [] [1,1,1,0,1,0,1,1,1,0,0,1] (decide ((nxV l q 4 : Int) = 2)) aE (fun hc5 => ?_) (fun hc5 => ?_)
   ·(try simp only [zq0,aC,aA,aB] at hc5)
    have hw2 := hc5
    have hn0 := Int.tmod_nonneg (e2.length : Int) hH.1
    have hn1 := Int.tmod_lt_of_pos (nxV l (nxK l q 4) 40) (b := (e2.length : Int)) (by omega)
    have hmx := hR.max (k := (Int.tmod (nxV l (nxK l q 4) 40) (e2.length : Int)).toNat) (by omega)
    refine zC hG [(15,8,.elem (SyD (a.ss.getD (Int.tmod (nxV l (nxK l q 4) 40) (e2.length : Int) : Int).toNat Sy.z))),(15,13,.elem (SyD (a.ss.getD (Int.tmod (nxV l (nxK l q 4) 40) (e2.length : Int) : Int).toNat Sy.z))),(19,1,kC (.c (cM 3 aN))),(19,2,kC (y26 ((bU (cY a (nxV l q 4) (nxV l (nxK l q 4) 40))).1) ((bU (cY a (nxV l q 4) (nxV l (nxK l q 4) 40))).2)))] [1,1,1,1,1,1,0,0,1] (decide (((bU (cY a (nxV l q 4) (nxV l (nxK l q 4) 40))).2 : Int) = 0)) (⟨e13z (k : Int) ++ [zX 10 902 0],e12z (intsD l) (nxK l (nxK l q 4) 40) (S (smG (nxV l 0 6)).nm) ((smG (nxV l 0 6)).ve) (aC ((smG (nxV l 0 6)).cs)) e2 e3 ((smG (nxV l 0 6)).st) (e2.set (Int.tmod (nxV l (nxK l q 4) 40) (e2.length : Int) : Int).toNat (aI (SyD (a.ss.getD (Int.tmod (nxV l (nxK l q 4) 40) (e2.length : Int) : Int).toNat Sy.z)) 2 [.i (if (((a.ss.getD (Int.tmod (nxV l (nxK l q 4) 40) (e2.length : Int) : Int).toNat Sy.z).mx) - 1 : Int) > 1 then (((a.ss.getD (Int.tmod (nxV l (nxK l q 4) 40) (e2.length : Int) : Int).toNat Sy.z).mx) - 1) else 1)])) e3⟩) (aD (by intros; (try simp only [zq2,aC,aA,aB] at *); omega : (e2.length : Int) ≠ (0 : Int)) (aD (by intros; (try simp only [zq2,aC,aA,aB] at *); omega : (0 : Int) <= (Int.tmod (nxV l (nxK l q 4) 40) (e2.length : Int)) /\ (Int.tmod (nxV l (nxK l q 4) 40) (e2.length : Int)) < (e2.length : Int)) (aD (by intros; exact aHW he2 (by omega) : (e2)[(Int.tmod (nxV l (nxK l q 4) 40) (e2.length : Int) : Int).toNat]? = some (SyD (a.ss.getD (Int.tmod (nxV l (nxK l q 4) 40) (e2.length : Int) : Int).toNat Sy.z))) (aD (by intros; (try simp only [zq2,aC,aA,aB] at *); omega : inR (((a.ss.getD (Int.tmod (nxV l (nxK l q 4) 40) (e2.length : Int) : Int).toNat Sy.z).mx) - 1)) (aD (by intros; (try simp only [zq2,aC,aA,aB] at *); omega : (0 : Int) <= (Int.tmod (nxV l (nxK l q 4) 40) (e2.length : Int)) /\ (Int.tmod (nxV l (nxK l q 4) 40) (e2.length : Int)) < (e2.length : Int)) (aD (by intros; exact aHW he2 (by omega) : (e2)[(Int.tmod (nxV l (nxK l q 4) 40) (e2.length : Int) : Int).toNat]? = some (SyD (a.ss.getD (Int.tmod (nxV l (nxK l q 4) 40) (e2.length : Int) : Int).toNat Sy.z))) (cS2 g (kL (ins := [.c cN]) [[some 1]] q7) (cS1 g (nG (x := (cY a (nxV l q 4) (nxV l (nxK l q 4) 40))) h06 (iO hf.1 _ _) (e2 := e2.set (Int.tmod (nxV l (nxK l q 4) 40) (e2.length : Int) : Int).toNat (aI (SyD (a.ss.getD (Int.tmod (nxV l (nxK l q 4) 40) (e2.length : Int) : Int).toNat Sy.z)) 2 [.i (if (((a.ss.getD (Int.tmod (nxV l (nxK l q 4) 40) (e2.length : Int) : Int).toNat Sy.z).mx) - 1 : Int) > 1 then (((a.ss.getD (Int.tmod (nxV l (nxK l q 4) 40) (e2.length : Int) : Int).toNat Sy.z).mx) - 1) else 1)])) (e3 := e3) (by rw [aHT hw1 hw2,<- hl2]; exact wP he2 _ (fun x => if x - 1 > 1 then x - 1 else 1)) (by rw [aHT hw1 hw2]; exact he3)))))))))) (fun hc6 => ?_) (fun hc6 => ?_)
    ·(try simp only [zq0,aC,aA,aB] at hc6)
     have hce := hc6
     refine zD hG [] (k + 1,nxK l (nxK l q 4) 40,(cY a (nxV l q 4) (nxV l (nxK l q 4) 40)),e2.set (Int.tmod (nxV l (nxK l q 4) 40) (e2.length : Int) : Int).toNat (aI (SyD (a.ss.getD (Int.tmod (nxV l (nxK l q 4) 40) (e2.length : Int) : Int).toNat Sy.z)) 2 [.i (if ((((a.ss.getD (Int.tmod (nxV l (nxK l q 4) 40) (e2.length : Int) : Int).toNat Sy.z)).mx) - 1 : Int) > 1 then ((((a.ss.getD (Int.tmod (nxV l (nxK l q 4) 40) (e2.length : Int) : Int).toNat Sy.z)).mx) - 1) else 1)]),e3) (aG (by intros; (try simp only [zq2,aC,aA,aB] at *); omega : inR ((k : Int) + 1))) ?_ ?_
     ·(try dsimp only); omega
     ·have hmm := eX hm
      rw [if_pos hce] at hmm
      have hff := fF l (k + 1)
      rw [hmm] at hff
      exact ⟨by omega,(hQ.next 4).next 40,hmm,hff,(by rw [aHT hw1 hw2,<- hl2]; exact wP he2 _ (fun x => if x - 1 > 1 then x - 1 else 1)),(by rw [aHT hw1 hw2]; exact he3)⟩
    ·(try simp only [zq0,aC,aA,aB] at hc6)
     have hce := hc6
     refine zD hG [] (k + 1,nxK l (nxK l q 4) 40,a,e2,e3) (aG (by intros; (try simp only [zq2,aC,aA,aB] at *); omega : inR ((k : Int) + 1))) ?_ ?_
     ·(try dsimp only); omega
     ·have hmm := eX hm
      rw [if_neg hce] at hmm
      exact ⟨by omega,(hQ.next 4).next 40,hmm,hf,he2,he3⟩
   ·(try simp only [zq0,aC,aA,aB] at hc5)
    have hw2 := hc5
    refine zC hG [] [1,1,1,1,1,0,1,0,1,1,1,0,0,1] (decide ((nxV l q 4 : Int) = 3)) (⟨e13z (k : Int) ++ [zI 9 (nxV l (nxK l q 4) 40),zX 10 902 0],e12z (intsD l) (nxK l (nxK l q 4) 40) (S (smG (nxV l 0 6)).nm) ((smG (nxV l 0 6)).ve) (aC ((smG (nxV l 0 6)).cs)) e2 e3 ((smG (nxV l 0 6)).st) e2 e3⟩) aE (fun hc7 => ?_) (fun hc7 => ?_)
    ·(try simp only [zq0,aC,aA,aB] at hc7)
     have hw3 := hc7
     have hn0 := Int.tmod_nonneg (e2.length : Int) hH.1
     have hn1 := Int.tmod_lt_of_pos (nxV l (nxK l q 4) 40) (b := (e2.length : Int)) (by omega)
     have hmx := hR.max (k := (Int.tmod (nxV l (nxK l q 4) 40) (e2.length : Int)).toNat) (by omega)
     refine zC hG [(18,8,.elem (SyD (a.ss.getD (Int.tmod (nxV l (nxK l q 4) 40) (e2.length : Int) : Int).toNat Sy.z))),(18,13,.elem (SyD (a.ss.getD (Int.tmod (nxV l (nxK l q 4) 40) (e2.length : Int) : Int).toNat Sy.z))),(19,1,kC (.c (cM 3 aN))),(19,2,kC (y26 ((bU (cY a (nxV l q 4) (nxV l (nxK l q 4) 40))).1) ((bU (cY a (nxV l q 4) (nxV l (nxK l q 4) 40))).2)))] [1,1,1,1,1,1,0,0,1] (decide (((bU (cY a (nxV l q 4) (nxV l (nxK l q 4) 40))).2 : Int) = 0)) (⟨e13z (k : Int) ++ [zX 10 902 0],e12z (intsD l) (nxK l (nxK l q 4) 40) (S (smG (nxV l 0 6)).nm) ((smG (nxV l 0 6)).ve) (aC ((smG (nxV l 0 6)).cs)) e2 e3 ((smG (nxV l 0 6)).st) (e2.set (Int.tmod (nxV l (nxK l q 4) 40) (e2.length : Int) : Int).toNat (aI (SyD (a.ss.getD (Int.tmod (nxV l (nxK l q 4) 40) (e2.length : Int) : Int).toNat Sy.z)) 2 [.i (if (((a.ss.getD (Int.tmod (nxV l (nxK l q 4) 40) (e2.length : Int) : Int).toNat Sy.z).mx) + 1 : Int) < 5 then (((a.ss.getD (Int.tmod (nxV l (nxK l q 4) 40) (e2.length : Int) : Int).toNat Sy.z).mx) + 1) else 5)])) e3⟩) (aD (by intros; (try simp only [zq2,aC,aA,aB] at *); omega : (e2.length : Int) ≠ (0 : Int)) (aD (by intros; (try simp only [zq2,aC,aA,aB] at *); omega : (0 : Int) <= (Int.tmod (nxV l (nxK l q 4) 40) (e2.length : Int)) /\ (Int.tmod (nxV l (nxK l q 4) 40) (e2.length : Int)) < (e2.length : Int)) (aD (by intros; exact aHW he2 (by omega) : (e2)[(Int.tmod (nxV l (nxK l q 4) 40) (e2.length : Int) : Int).toNat]? = some (SyD (a.ss.getD (Int.tmod (nxV l (nxK l q 4) 40) (e2.length : Int) : Int).toNat Sy.z))) (aD (by intros; (try simp only [zq2,aC,aA,aB] at *); omega : inR (((a.ss.getD (Int.tmod (nxV l (nxK l q 4) 40) (e2.length : Int) : Int).toNat Sy.z).mx) + 1)) (aD (by intros; (try simp only [zq2,aC,aA,aB] at *); omega : (0 : Int) <= (Int.tmod (nxV l (nxK l q 4) 40) (e2.length : Int)) /\ (Int.tmod (nxV l (nxK l q 4) 40) (e2.length : Int)) < (e2.length : Int)) (aD (by intros; exact aHW he2 (by omega) : (e2)[(Int.tmod (nxV l (nxK l q 4) 40) (e2.length : Int) : Int).toNat]? = some (SyD (a.ss.getD (Int.tmod (nxV l (nxK l q 4) 40) (e2.length : Int) : Int).toNat Sy.z))) (cS2 g (kL (ins := [.c cN]) [[some 1]] q7) (cS1 g (nG (x := (cY a (nxV l q 4) (nxV l (nxK l q 4) 40))) h06 (iO hf.1 _ _) (e2 := e2.set (Int.tmod (nxV l (nxK l q 4) 40) (e2.length : Int) : Int).toNat (aI (SyD (a.ss.getD (Int.tmod (nxV l (nxK l q 4) 40) (e2.length : Int) : Int).toNat Sy.z)) 2 [.i (if (((a.ss.getD (Int.tmod (nxV l (nxK l q 4) 40) (e2.length : Int) : Int).toNat Sy.z).mx) + 1 : Int) < 5 then (((a.ss.getD (Int.tmod (nxV l (nxK l q 4) 40) (e2.length : Int) : Int).toNat Sy.z).mx) + 1) else 5)])) (e3 := e3) (by rw [aHS hw1 hw2 hw3,<- hl2]; exact wP he2 _ (fun x => if x + 1 < 5 then x + 1 else 5)) (by rw [aHS hw1 hw2 hw3]; exact he3)))))))))) (fun hc8 => ?_) (fun hc8 => ?_)
     ·(try simp only [zq0,aC,aA,aB] at hc8)
      have hce := hc8
      refine zD hG [] (k + 1,nxK l (nxK l q 4) 40,(cY a (nxV l q 4) (nxV l (nxK l q 4) 40)),e2.set (Int.tmod (nxV l (nxK l q 4) 40) (e2.length : Int) : Int).toNat (aI (SyD (a.ss.getD (Int.tmod (nxV l (nxK l q 4) 40) (e2.length : Int) : Int).toNat Sy.z)) 2 [.i (if ((((a.ss.getD (Int.tmod (nxV l (nxK l q 4) 40) (e2.length : Int) : Int).toNat Sy.z)).mx) + 1 : Int) < 5 then ((((a.ss.getD (Int.tmod (nxV l (nxK l q 4) 40) (e2.length : Int) : Int).toNat Sy.z)).mx) + 1) else 5)]),e3) (aG (by intros; (try simp only [zq2,aC,aA,aB] at *); omega : inR ((k : Int) + 1))) ?_ ?_
      ·(try dsimp only); omega
      ·have hmm := eX hm
       rw [if_pos hce] at hmm
       have hff := fF l (k + 1)
       rw [hmm] at hff
       exact ⟨by omega,(hQ.next 4).next 40,hmm,hff,(by rw [aHS hw1 hw2 hw3,<- hl2]; exact wP he2 _ (fun x => if x + 1 < 5 then x + 1 else 5)),(by rw [aHS hw1 hw2 hw3]; exact he3)⟩
     ·(try simp only [zq0,aC,aA,aB] at hc8)
      have hce := hc8
      refine zD hG [] (k + 1,nxK l (nxK l q 4) 40,a,e2,e3) (aG (by intros; (try simp only [zq2,aC,aA,aB] at *); omega : inR ((k : Int) + 1))) ?_ ?_
      ·(try dsimp only); omega
      ·have hmm := eX hm
       rw [if_neg hce] at hmm
       exact ⟨by omega,(hQ.next 4).next 40,hmm,hf,he2,he3⟩
    ·(try simp only [zq0,aC,aA,aB] at hc7)
     have hw3 := hc7
     refine zC hG [(19,1,kC (.c (cM 3 aN))),(19,2,kC (y26 ((bU (cY a (nxV l q 4) (nxV l (nxK l q 4) 40))).1) ((bU (cY a (nxV l q 4) (nxV l (nxK l q 4) 40))).2)))] [1,1,1,1,1,1,0,0,1] (decide (((bU (cY a (nxV l q 4) (nxV l (nxK l q 4) 40))).2 : Int) = 0)) (⟨e13z (k : Int) ++ [zX 10 902 0],e12z (intsD l) (nxK l (nxK l q 4) 40) (S (smG (nxV l 0 6)).nm) ((smG (nxV l 0 6)).ve) (aC ((smG (nxV l 0 6)).cs)) e2 e3 ((smG (nxV l 0 6)).st) e2 e3⟩) (cS2 g (kL (ins := [.c cN]) [[some 1]] q7) (cS1 g (nG (x := (cY a (nxV l q 4) (nxV l (nxK l q 4) 40))) h06 (iO hf.1 _ _) (e2 := e2) (e3 := e3) (by rw [aHV hw1 hw2 hw3]; exact he2) (by rw [aHV hw1 hw2 hw3]; exact he3)))) (fun hc9 => ?_) (fun hc9 => ?_)
     ·(try simp only [zq0,aC,aA,aB] at hc9)
      have hce := hc9
      refine zD hG [] (k + 1,nxK l (nxK l q 4) 40,(cY a (nxV l q 4) (nxV l (nxK l q 4) 40)),e2,e3) (aG (by intros; (try simp only [zq2,aC,aA,aB] at *); omega : inR ((k : Int) + 1))) ?_ ?_
      ·(try dsimp only); omega
      ·have hmm := eX hm
       rw [if_pos hce] at hmm
       have hff := fF l (k + 1)
       rw [hmm] at hff
       exact ⟨by omega,(hQ.next 4).next 40,hmm,hff,(by rw [aHV hw1 hw2 hw3]; exact he2),(by rw [aHV hw1 hw2 hw3]; exact he3)⟩
     ·(try simp only [zq0,aC,aA,aB] at hc9)
      have hce := hc9
      refine zD hG [] (k + 1,nxK l (nxK l q 4) 40,a,e2,e3) (aG (by intros; (try simp only [zq2,aC,aA,aB] at *); omega : inR ((k : Int) + 1))) ?_ ?_
      ·(try dsimp only); omega
      ·have hmm := eX hm
       rw [if_neg hce] at hmm
       exact ⟨by omega,(hQ.next 4).next 40,hmm,hf,he2,he3⟩
 ·(try simp only [zq0,aC,aA,aB] at hc2)
  refine zE hG [] (.exit 0) (⟨[zX 2 100 0,zX 4 307 0],[(100,y4),(307,y2 (S (smG (nxV l 0 6)).nm) ((smG (nxV l 0 6)).ve) (aC ((smG (nxV l 0 6)).cs)) e2 e3 ((smG (nxV l 0 6)).st))]⟩) aE rfl ?_
  refine zR hG [] [] (y1 (S (smG (nxV l 0 6)).nm) ((smG (nxV l 0 6)).ve) (aC ((smG (nxV l 0 6)).cs)) e2 e3 ((smG (nxV l 0 6)).st)) [] aE ?_ ?_
  ·have h3 : k = 3 := by omega
   subst h3
   have e : jD l = a := by rw [jD,hm]
   rw [e,he2,he3]
  ·rfl
theorem aG9 (l : List Int) (hN : NumOk l 0) : SpG g 11 [.c (cM 1 (intsD l))] [] (.agg (grC (jD l))) [] := by
 have h := (fF l 3).1
 have := made_ok (g := g) l hN
 rw [<- h.nm,<- h.ve,<- h.cs,<- h.st] at this
 exact this
end Go.Proofs.YtgpedhfdniigoaaGreatDoor
