/- Part 46 of the proof. -/
import Derived.Test.YtclaplngjmgnoaaGreatDoorP30
import Derived.Test.YtclaplngjmgnoaaGreatDoorP31
import Derived.Test.YtclaplngjmgnoaaGreatDoorP32
import Derived.Test.YtclaplngjmgnoaaGreatDoorP35
import Derived.Test.YtclaplngjmgnoaaGreatDoorP36
import Derived.Test.YtclaplngjmgnoaaGreatDoorP37
import Derived.Test.YtclaplngjmgnoaaGreatDoorP38
import Derived.Test.YtclaplngjmgnoaaGreatDoorP41
import Derived.Test.YtclaplngjmgnoaaGreatDoorP43
import Derived.Test.YtclaplngjmgnoaaGreatDoorP44
import Derived.Test.YtclaplngjmgnoaaGreatDoorP45
set_option linter.all false
namespace Go.Proofs.YtclaplngjmgnoaaGreatDoor
set_option maxRecDepth 100000
open Go.RowKit Go.V
section
variable {g : Gv}
theorem aNC (n v : Int) (a : Int) (h1 : V.Spec Tryz.prog (Gl g) 44 [.c (cI n),.c (cI 18)] [] (.c (cI v)) []) (h2 : 0 <= v /\ (progs.map fun p => [D.sl 1 (intsD p)])[v.toNat]? = some [.sl 1 (intsD [a])]) : V.Spec Tryz.prog (Gl g) 86 [.agg g0C,.c (cI n)] [] (.c (cM 1 (intsD [a]))) [] :=
 oY pkO pkL (pkH [a]) (T := pkT v) (ne := []) (df := []) (F := 100000) (d := 60) (cs := [V.Spec Tryz.prog (Gl g) 44 [.c (cI n),.c (cI 18)] [] (.c (cI v)) [],0 <= v /\ (progs.map fun p => [D.sl 1 (intsD p)])[v.toNat]? = some [.sl 1 (intsD [a])]]) hmx (by kernel_rfl) ⟨h1,h2⟩
theorem aNB (n v : Int) (a b : Int) (h1 : V.Spec Tryz.prog (Gl g) 44 [.c (cI n),.c (cI 18)] [] (.c (cI v)) []) (h2 : 0 <= v /\ (progs.map fun p => [D.sl 1 (intsD p)])[v.toNat]? = some [.sl 1 (intsD [a,b])]) : V.Spec Tryz.prog (Gl g) 86 [.agg g0C,.c (cI n)] [] (.c (cM 1 (intsD [a,b]))) [] :=
 oY pkO pkL (pkH [a,b]) (T := pkT v) (ne := []) (df := []) (F := 100000) (d := 60) (cs := [V.Spec Tryz.prog (Gl g) 44 [.c (cI n),.c (cI 18)] [] (.c (cI v)) [],0 <= v /\ (progs.map fun p => [D.sl 1 (intsD p)])[v.toNat]? = some [.sl 1 (intsD [a,b])]]) hmx (by kernel_rfl) ⟨h1,h2⟩
theorem o8 (n v : Int) (a b c : Int) (h1 : V.Spec Tryz.prog (Gl g) 44 [.c (cI n),.c (cI 18)] [] (.c (cI v)) []) (h2 : 0 <= v /\ (progs.map fun p => [D.sl 1 (intsD p)])[v.toNat]? = some [.sl 1 (intsD [a,b,c])]) : V.Spec Tryz.prog (Gl g) 86 [.agg g0C,.c (cI n)] [] (.c (cM 1 (intsD [a,b,c]))) [] :=
 oY pkO pkL (pkH [a,b,c]) (T := pkT v) (ne := []) (df := []) (F := 100000) (d := 60) (cs := [V.Spec Tryz.prog (Gl g) 44 [.c (cI n),.c (cI 18)] [] (.c (cI v)) [],0 <= v /\ (progs.map fun p => [D.sl 1 (intsD p)])[v.toNat]? = some [.sl 1 (intsD [a,b,c])]]) hmx (by kernel_rfl) ⟨h1,h2⟩
theorem jX (n v : Int) (a b c d : Int) (h1 : V.Spec Tryz.prog (Gl g) 44 [.c (cI n),.c (cI 18)] [] (.c (cI v)) []) (h2 : 0 <= v /\ (progs.map fun p => [D.sl 1 (intsD p)])[v.toNat]? = some [.sl 1 (intsD [a,b,c,d])]) : V.Spec Tryz.prog (Gl g) 86 [.agg g0C,.c (cI n)] [] (.c (cM 1 (intsD [a,b,c,d]))) [] :=
 oY pkO pkL (pkH [a,b,c,d]) (T := pkT v) (ne := []) (df := []) (F := 100000) (d := 60) (cs := [V.Spec Tryz.prog (Gl g) 44 [.c (cI n),.c (cI 18)] [] (.c (cI v)) [],0 <= v /\ (progs.map fun p => [D.sl 1 (intsD p)])[v.toNat]? = some [.sl 1 (intsD [a,b,c,d])]]) hmx (by kernel_rfl) ⟨h1,h2⟩
end
section
variable {g : Gv}
def TXS : List (List UInt8) := [[65],[66],[97],[97,49],[49,50,45,120],[],[72,73,71,72],[88,49],[45],[49],[49,50]]
def Cok (v : Tv) : Prop := v = none \/ ∃ t,t ∈ rowTx /\ v = some t
theorem r9 : ∀ t,t ∈ rowTx -> bU (some t) := by
 intro t ht;simp only [rowTx,mc,List.not_mem_nil,or_false] at ht;rcases ht with rfl | rfl | rfl | rfl | rfl | rfl | rfl | rfl <;> (unfold bU; kernel_rfl)
theorem aGG : ∀ t,t ∈ TXS -> bU (some t) /\ t.length <= 4 := by
 intro t ht;simp only [TXS,mc,List.not_mem_nil,or_false] at ht;rcases ht with rfl | rfl | rfl | rfl | rfl | rfl | rfl | rfl | rfl | rfl | rfl <;> exact ⟨by unfold bU; kernel_rfl,by decide⟩
theorem fK : bU none := by unfold bU; kernel_rfl
theorem Cok.ok {v : Tv} (h : Cok v) : bU v := by
 rcases h with rfl | ⟨t,ht,rfl⟩
 exact fK;exact r9 t ht
theorem jV (s : List UInt8) (h : bU (some s)) : RgT g (S s) := by
 have hl : s.length <= 200 := iE h;have hp := aJL (g := g) (S s) (by rw [aQ]; unfold maxLen; omega);have e : cZ (S s) = true := h;rw [e] at hp;exact rightX2 (S s) ⟨eqX (S s) (show Value.bool ((S s).toList == (S s).toList) = .bool true by simp),hp⟩
theorem pK (l : List (List UInt8)) (v : Int) (h0 : 0 <= v) (h1 : v < l.length) : ∃ t,t ∈ l /\ (l.map fun t => [D.s (S t)])[v.toNat]? = some [.s (S t)] :=
 ⟨l[v.toNat]'(by omega),List.getElem_mem _,by rw [List.getElem?_map,ge (by omega)]; rfl⟩
theorem cR (l : List Int) (k n : Int) (h : NumOk l k) (hn : n <= 1000000000000000001) : Nx g l k n (nxV l k n) (nxK l k n) := iK l k n h hn
theorem aMS (l : List Int) (h : NumOk l 0) : ∃ a b : Tv,Cok a /\ Cok b /\ V.Spec Tryz.prog (Gl g) 88 [.agg g0C,.c (cM 1 (intsD l))] [] (.c (cM 7 [TvD a,TvD b])) [] := by
 have b1 := dK l 0 (n := 8) (by decide);have n1 := h.next 8;have n2 := n1.next 12;have b2 := dK l (nxK l (nxK l 0 8) 12) (n := 8) (by decide);have n3 := n2.next 8;obtain ⟨t1,m1,e1⟩ := pK rowTx _ b1.1 b1.2;obtain ⟨t2,m2,e2⟩ := pK rowTx _ b2.1 b2.2;have x1 := cR (g := g) l 0 8 h (by decide);have x2 := cR (g := g) l _ 12 n1 (by decide);have x3 := cR (g := g) l _ 8 n2 (by decide);have x4 := cR (g := g) l _ 12 n3 (by decide);by_cases c1 : nxV l (nxK l 0 8) 12 = 11 <;> by_cases c2 : nxV l (nxK l (nxK l (nxK l 0 8) 12) 8) 12 = 11
 ·exact ⟨none,none,.inl rfl,.inl rfl,le_c (rowX11 l _ _ _ _ _ _ _ _ t1 t2 ⟨(decide_eq_true c2),x4,x3,⟨b2.1,e2⟩,(decide_eq_true c1),x2,x1,⟨b1.1,e1⟩⟩) (.two (v7 0) (v7 0))⟩
 ·exact ⟨none,some t2,.inl rfl,.inr ⟨t2,m2,rfl⟩,le_c (rowX10 l _ _ _ _ _ _ _ _ t1 t2 ⟨(decide_eq_false c2),x4,x3,⟨b2.1,e2⟩,(decide_eq_true c1),x2,x1,⟨b1.1,e1⟩⟩) (.two (v7 0) (v6 _))⟩
 ·exact ⟨some t1,none,.inr ⟨t1,m1,rfl⟩,.inl rfl,le_c (rowX01 l _ _ _ _ _ _ _ _ t1 t2 ⟨(decide_eq_true c2),x4,x3,⟨b2.1,e2⟩,(decide_eq_false c1),x2,x1,⟨b1.1,e1⟩⟩) (.two (v6 _) (v7 0))⟩
 ·exact ⟨some t1,some t2,.inr ⟨t1,m1,rfl⟩,.inr ⟨t2,m2,rfl⟩,le_c (rowX00 l _ _ _ _ _ _ _ _ t1 t2 ⟨(decide_eq_false c2),x4,x3,⟨b2.1,e2⟩,(decide_eq_false c1),x2,x1,⟨b1.1,e1⟩⟩) (.two (v6 _) (v6 _))⟩
theorem rE (a b : Tv) (ha : bU a) (hb : bU b) : V.Spec Tryz.prog (Gl g) 342 [lQ,.c (cM 7 [TvD a,TvD b])] [] (.c (cB true)) [] := by
 cases a with
 | none => cases b with
  | none => exact fitsXNN (S []) (S []) ⟨yM,yM⟩
  | some t => exact fitsXNT (S []) (S t) ⟨jV t hb,yM⟩
 | some s => cases b with
  | none => exact fitsXTN (S s) (S []) ⟨yM,jV s ha⟩
  | some t => exact fitsXTT (S s) (S t) ⟨jV t hb,jV s ha⟩
inductive Res where
 | ok (s : List UInt8)
 | bad (e : Int)
def outR : Res -> SV
 | .ok s => oL (S s)
 | .bad e => oE e
def EvS (g : Gv) (p : List Int) (row : D) (r : Res) : Prop := V.Spec Tryz.prog (Gl g) 211 [.agg g0C,oM,.c (cM 1 (intsD p)),.c (.d row)] [] (outR r) []
def aQN (r : Res) : Prop := (∃ s,s ∈ TXS /\ r = .ok s) \/ r = .bad 16
def ResS (r : Res) : Prop := (∃ s,bU (some s) /\ s.length <= 4 /\ r = .ok s) \/ r = .bad 16
def ResT (r : Res) : Prop := (∃ s,bU (some s) /\ r = .ok s) \/ r = .bad 16 \/ r = .bad 18
theorem ResS.t {r : Res} (h : ResS r) : ResT r := by
 rcases h with ⟨s,h1,_,rfl⟩ | rfl;exact .inl ⟨s,h1,rfl⟩;exact .inr (.inl rfl)
theorem kD : V.Spec Tryz.prog (Gl g) 141 [.c (cI 16)] [] (oF 16) [] := eB (l := [.i 0,.s (S []),.i 0,.i 0,.i 16,nlD,nlD]) failX16 (v7 16)
theorem aAJ : V.Spec Tryz.prog (Gl g) 141 [.c (cI 18)] [] (oF 18) [] := eB (l := [.i 0,.s (S []),.i 0,.i 0,.i 18,nlD,nlD]) failX18 (v7 18)
theorem s6 {f : FuncId} {ins : List SV} {s : ByteArray} (h : V.Spec Tryz.prog (Gl g) f ins [] (oN s) []) : V.Spec Tryz.prog (Gl g) f ins [] (oL s) [] := aN9 (l := [.i 1,.s s,.i 0,.i 0,.i 0,nlD,nlD]) h (v6 s) rfl
theorem zJ {f : FuncId} {ins : List SV} {s : ByteArray} (h : V.Spec Tryz.prog (Gl g) f ins [] (oC s) []) : V.Spec Tryz.prog (Gl g) f ins [] (oL s) [] := aN9 (l := [.i 1,.s s,.i 0,.i 0,.i 0,.sl 1 [],nlD]) h (le_tx' s) rfl
theorem o3 : ∀ t,t ∈ rowTx -> t ∈ TXS := by
 intro t ht;simp only [rowTx,mc,List.not_mem_nil,or_false] at ht;rcases ht with rfl | rfl | rfl | rfl | rfl | rfl | rfl | rfl <;> decide
theorem aO4 (a b : Tv) (ha : Cok a) (hb : Cok b) : ∃ r,ResS r /\ EvS g [0] (.sl 7 [TvD a,TvD b]) r := by
 have hf := rE (g := g) a b ha.ok hb.ok;rcases ha with rfl | ⟨s,hs,rfl⟩
 exact ⟨.bad 16,.inr rfl,ev0E [] _ 16 ⟨aPM (TvD b) hf,aMG⟩⟩;exact ⟨.ok s,.inl ⟨s,r9 s hs,(aGG s (o3 s hs)).2,rfl⟩,ev0T [] _ (S s) ⟨zJ (aPL (S s) (TvD b) hf),aMG⟩⟩
theorem aO3 (a b : Tv) (ha : Cok a) (hb : Cok b) : ∃ r,ResS r /\ EvS g [1] (.sl 7 [TvD a,TvD b]) r := by
 have hf := rE (g := g) a b ha.ok hb.ok;rcases hb with rfl | ⟨s,hs,rfl⟩
 exact ⟨.bad 16,.inr rfl,ev1E [] _ 16 ⟨colBE (TvD a) hf,aMF⟩⟩;exact ⟨.ok s,.inl ⟨s,r9 s hs,(aGG s (o3 s hs)).2,rfl⟩,ev1T [] _ (S s) ⟨zJ (colBX (S s) (TvD a) hf),aMF⟩⟩
theorem ev4_ok (a b : Tv) (ha : Cok a) (hb : Cok b) : ∃ r,aQN r /\ EvS g [4] (.sl 7 [TvD a,TvD b]) r := by
 have hf := rE (g := g) a b ha.ok hb.ok;rcases ha with rfl | ⟨s,hs,rfl⟩
 exact ⟨.bad 16,.inr rfl,ev4E [] _ 16 ⟨aPM (TvD b) hf,yD⟩⟩;exact ⟨.ok s,.inl ⟨s,o3 s hs,rfl⟩,ev4T [] _ (S s) ⟨zJ (aPL (S s) (TvD b) hf),yD⟩⟩
theorem ev5_ok (row : D) : ∃ r,aQN r /\ EvS g [5] row r := ⟨.ok [45],.inl ⟨[45],by decide,rfl⟩,ev5T [] row (S [45]) ⟨s6 (aQA (.c (.d row))),aL9⟩⟩
theorem aLK (s : List UInt8) (hs : s ∈ TXS) : ∃ u,bU (some u) /\ u.length <= 4 /\ ∀ row : SV,V.Spec Tryz.prog (Gl g) 287 (apI [117,112,112,101,114] [] (.c (cM 7 [tL (S s)])) (row)) [] (oN (S u)) [] := by
 simp only [TXS,mc,List.not_mem_nil,or_false] at hs;rcases hs with rfl | rfl | rfl | rfl | rfl | rfl | rfl | rfl | rfl | rfl | rfl;exact ⟨[65],by unfold bU; kernel_rfl,by decide,fun row => apUp0 row⟩;exact ⟨[66],by unfold bU; kernel_rfl,by decide,fun row => apUp1 row⟩;exact ⟨[65],by unfold bU; kernel_rfl,by decide,fun row => apUp2 row⟩;exact ⟨[65,49],by unfold bU; kernel_rfl,by decide,fun row => apUp3 row⟩;exact ⟨[49,50,45,88],by unfold bU; kernel_rfl,by decide,fun row => apUp4 row⟩;exact ⟨[],by unfold bU; kernel_rfl,by decide,fun row => apUp5 row⟩;exact ⟨[72,73,71,72],by unfold bU; kernel_rfl,by decide,fun row => apUp6 row⟩;exact ⟨[88,49],by unfold bU; kernel_rfl,by decide,fun row => apUp7 row⟩;exact ⟨[45],by unfold bU; kernel_rfl,by decide,fun row => apUp8 row⟩;exact ⟨[49],by unfold bU; kernel_rfl,by decide,fun row => apUp9 row⟩;exact ⟨[49,50],by unfold bU; kernel_rfl,by decide,fun row => apUp10 row⟩
def extR (s : List UInt8) : Res := if s = [97,49] then .ok [49] else if s = [49,50,45,120] then .ok [49,50] else if s = [88,49] then .ok [49] else .bad 18
def outA : Res -> SV
 | .ok s => oN (S s)
 | .bad e => oE e
theorem tN (s : List UInt8) (hs : s ∈ rowTx \/ s = [45]) : ∀ row : SV,V.Spec Tryz.prog (Gl g) 287 (apI [101,120,116,114,97,99,116] [92,100,43,35,49] (.c (cM 7 [tL (S s)])) (row)) [] (outA (extR s)) [] := by
 simp only [rowTx,mc,List.not_mem_nil,or_false] at hs;rcases hs with (rfl | rfl | rfl | rfl | rfl | rfl | rfl | rfl) | rfl;exact fun row => apEx0 row;exact fun row => apEx1 row;exact fun row => apEx2 row;exact fun row => apEx3 row;exact fun row => apEx4 row;exact fun row => apEx5 row;exact fun row => apEx6 row;exact fun row => apEx7 row;exact fun row => apEx8 row
theorem tQ {x : List Int} {row : D} {r : Res} (hr : aQN r) (hx : EvS g x row r) (hs : V.Spec Tryz.prog (Gl g) 286 [.agg g0C,.c (cM 1 (intsD (3 :: x)))] [] (y43 [[.sl 1 (intsD x)]]) []) : ∃ r,ResS r /\ EvS g (3 :: x) row r := by
 rcases hr with ⟨s,hm,rfl⟩ | rfl;obtain ⟨u,h1,h2,h3⟩ := aLK (g := g) s hm;exact ⟨.ok u,.inl ⟨u,h1,h2,rfl⟩,s6 (ev3_TT (intsD x) row (.sl 1 (intsD x)) (S s) (S u) ⟨h3 _,hx,hs⟩)⟩;exact ⟨.bad 16,.inr rfl,ev3_16E (intsD x) row (.sl 1 (intsD x)) 16 ⟨apUpE16 _,kD,hx,hs⟩⟩
theorem aO1 {x : List Int} {row : D} (hx : EvS g x row (.bad 18)) (hs : V.Spec Tryz.prog (Gl g) 286 [.agg g0C,.c (cM 1 (intsD (3 :: x)))] [] (y43 [[.sl 1 (intsD x)]]) []) : EvS g (3 :: x) row (.bad 18) := ev3_18E (intsD x) row (.sl 1 (intsD x)) 18 ⟨apUpE18 _,aAJ,hx,hs⟩
theorem ev64_ok (a b : Tv) (ha : Cok a) (hb : Cok b) : ∃ r,(aQN r \/ r = .bad 18) /\ EvS g [6,4] (.sl 7 [TvD a,TvD b]) r := by
 have hf := rE (g := g) a b ha.ok hb.ok;rcases ha with rfl | ⟨s,hs,rfl⟩
 have h4 : EvS g [4] (.sl 7 [TvD none,TvD b]) (.bad 16) := ev4E [] _ 16 ⟨aPM (TvD b) hf,yD⟩;exact ⟨.bad 16,.inl (.inr rfl),ev6_16E (intsD [4]) _ (.sl 1 (intsD [4])) 16 ⟨apExE16 _,kD,h4,yC⟩⟩;have h4 : EvS g [4] (.sl 7 [TvD (some s),TvD b]) (.ok s) := ev4T [] _ (S s) ⟨zJ (aPL (S s) (TvD b) hf),yD⟩;have hx := tN (g := g) s (.inl hs) (.c (cM 7 [TvD (some s),TvD b]));have hc : (∃ u,u ∈ TXS /\ extR s = .ok u) \/ extR s = .bad 18 := by
  unfold extR;split;exact .inl ⟨_,by decide,rfl⟩;split;exact .inl ⟨_,by decide,rfl⟩;split;exact .inl ⟨_,by decide,rfl⟩;exact .inr rfl
 rcases hc with ⟨u,hu,he⟩ | he;rw [he] at hx;exact ⟨.ok u,.inl (.inl ⟨u,hu,rfl⟩),s6 (ev6_TT (intsD [4]) _ (.sl 1 (intsD [4])) (S s) (S u) ⟨hx,h4,yC⟩)⟩;rw [he] at hx;exact ⟨.bad 18,.inr rfl,aO0 (intsD [4]) _ (.sl 1 (intsD [4])) (S s) 18 ⟨hx,h4,yC⟩⟩
theorem aAK (row : D) : EvS g [6,5] row (.bad 18) := by
 have h5 : EvS g [5] row (.ok [45]) := ev5T [] row (S [45]) ⟨s6 (aQA (.c (.d row))),aL9⟩;exact aO0 (intsD [5]) _ (.sl 1 (intsD [5])) (S [45]) 18 ⟨tN [45] (.inr rfl) _,h5,split65⟩
theorem txt_app {s t : List UInt8} (hs : bU (some s)) (ht : bU (some t)) (h1 : s.length <= 4) (h2 : t.length <= 4) : bU (some (s ++ t)) := by
 unfold bU cZ at *;simp only [tvS,bIQ,decide_eq_true_eq,aQ] at *;refine ⟨?_,by simp; omega⟩;have e : ∀ l : List UInt8,bs (S l) = l := fun l => by simp [bs,S]
 rw [e] at *;rw [List.all_append,hs.1,ht.1]; rfl
theorem fY {x y : List Int} {row : D} {r1 r2 : Res} (hr1 : aQN r1 \/ r1 = .bad 18) (hx : EvS g x row r1) (hr2 : ResS r2) (hy : EvS g y row r2) (hs : V.Spec Tryz.prog (Gl g) 286 [.agg g0C,.c (cM 1 (intsD (2 :: (x ++ y))))] [] (y43 [[.sl 1 (intsD x)],[.sl 1 (intsD y)]]) []) : ∃ r,ResT r /\ EvS g (2 :: (x ++ y)) row r := by
 rcases hr1 with (⟨s,hm,rfl⟩ | rfl) | rfl;obtain ⟨hsk,hsl⟩ := aGG s hm;rcases hr2 with ⟨t,ht,htl,rfl⟩ | rfl;refine ⟨.ok (s ++ t),.inl ⟨_,txt_app hsk ht hsl htl,rfl⟩,?_⟩;have := coX (g := g) (.c (.d row)) (S s) (S t) ⟨by rw [aQ,aQ]; unfold Go.maxLen; omega,decide_eq_false (by rw [aQ,aQ]; omega),by rw [aQ,aQ]; unfold Go.Eng.inR; omega,jV t ht,jV s hsk⟩;have h := s6 (aO2 (intsD (x ++ y)) row (.sl 1 (intsD x)) (.sl 1 (intsD y)) (S s) (S t) (S s ++ S t) ⟨this,hy,hx,hs⟩);rw [eU] at h;exact h;exact ⟨.bad 16,.inr (.inl rfl),aKS (intsD (x ++ y)) row (.sl 1 (intsD x)) (.sl 1 (intsD y)) (S s) 16 ⟨coF16 _ (S s) (jV s hsk),kD,hy,hx,hs⟩⟩;rcases hr2 with ⟨t,ht,htl,rfl⟩ | rfl;exact ⟨.bad 16,.inr (.inl rfl),aKU (intsD (x ++ y)) row (.sl 1 (intsD x)) (.sl 1 (intsD y)) (S t) 16 ⟨coE16 _ _,hy,kD,hx,hs⟩⟩;exact ⟨.bad 16,.inr (.inl rfl),aF7 (intsD (x ++ y)) row (.sl 1 (intsD x)) (.sl 1 (intsD y)) 16 ⟨coE16 _ _,kD,hy,kD,hx,hs⟩⟩;rcases hr2 with ⟨t,ht,htl,rfl⟩ | rfl;exact ⟨.bad 18,.inr (.inr rfl),aKT (intsD (x ++ y)) row (.sl 1 (intsD x)) (.sl 1 (intsD y)) (S t) 18 ⟨coE18 _ _,hy,aAJ,hx,hs⟩⟩;exact ⟨.bad 18,.inr (.inr rfl),aF6 (intsD (x ++ y)) row (.sl 1 (intsD x)) (.sl 1 (intsD y)) 18 ⟨coE18 _ _,kD,hy,aAJ,hx,hs⟩⟩
theorem evT_ok (a b : Tv) (ha : Cok a) (hb : Cok b) (p : List Int) (hp : p ∈ progs) : ∃ r,ResT r /\ EvS g p (.sl 7 [TvD a,TvD b]) r := by
 obtain ⟨r0,h0,e0⟩ := aO4 (g := g) a b ha hb;obtain ⟨r1,h1,e1⟩ := aO3 (g := g) a b ha hb;obtain ⟨r4,h4,e4⟩ := ev4_ok (g := g) a b ha hb;obtain ⟨r5,h5,e5⟩ := ev5_ok (g := g) (.sl 7 [TvD a,TvD b]);obtain ⟨r64,h64,e64⟩ := ev64_ok (g := g) a b ha hb;obtain ⟨r34,h34,e34⟩ := tQ h4 e4 aGP;obtain ⟨r35,h35,e35⟩ := tQ h5 e5 aGO;simp only [progs,mc,List.not_mem_nil,or_false] at hp;rcases hp with rfl | rfl | rfl | rfl | rfl | rfl | rfl | rfl | rfl | rfl | rfl | rfl | rfl | rfl | rfl | rfl | rfl | rfl;obtain ⟨r,h1,h2⟩ := aO4 (g := g) a b ha hb; exact ⟨r,h1.t,h2⟩;obtain ⟨r,h1,h2⟩ := aO3 (g := g) a b ha hb; exact ⟨r,h1.t,h2⟩;obtain ⟨r,h1,h2⟩ := tQ h4 e4 aGP; exact ⟨r,h1.t,h2⟩;obtain ⟨r,h1,h2⟩ := tQ h5 e5 aGO; exact ⟨r,h1.t,h2⟩;exact fY (x := [4]) (y := [0]) (.inl h4) e4 h0 e0 aME;exact fY (x := [4]) (y := [1]) (.inl h4) e4 h1 e1 aMD;exact fY (x := [5]) (y := [0]) (.inl h5) e5 h0 e0 aMC;exact fY (x := [5]) (y := [1]) (.inl h5) e5 h1 e1 aMB;rcases h64 with h64 | rfl;obtain ⟨r,h1,h2⟩ := tQ h64 e64 aBS; exact ⟨r,h1.t,h2⟩;exact ⟨_,.inr (.inr rfl),aO1 e64 aBS⟩;exact ⟨_,.inr (.inr rfl),aO1 (aAK _) aMA⟩;exact fY (x := [4]) (y := [3,4]) (.inl h4) e4 h34 e34 aI6;exact fY (x := [4]) (y := [3,5]) (.inl h4) e4 h35 e35 aI5;exact fY (x := [5]) (y := [3,4]) (.inl h5) e5 h34 e34 aI4;exact fY (x := [5]) (y := [3,5]) (.inl h5) e5 h35 e35 aI3;exact fY (x := [6,4]) (y := [0]) h64 e64 h0 e0 aI2;exact fY (x := [6,4]) (y := [1]) h64 e64 h1 e1 aI1;exact fY (x := [6,5]) (y := [0]) (.inr rfl) (aAK _) h0 e0 aI0;exact fY (x := [6,5]) (y := [1]) (.inr rfl) (aAK _) h1 e1 aIZ
theorem x7 (p : List Int) (hp : p ∈ progs) : V.Spec Tryz.prog (Gl g) 209 [.agg g0C,.c (cM 1 (intsD p))] [] (y44) [] := by
 simp only [progs,mc,List.not_mem_nil,or_false] at hp;rcases hp with rfl | rfl | rfl | rfl | rfl | rfl | rfl | rfl | rfl | rfl | rfl | rfl | rfl | rfl | rfl | rfl | rfl | rfl;exact symb0;exact symb1;exact symb34;exact symb35;exact symb240;exact symb241;exact symb250;exact symb251;exact symb364;exact symb365;exact aL5;exact aL4;exact aL3;exact aL2;exact aL1;exact aL0;exact aLZ;exact aLY
theorem aAV (p : List Int) (hp : p ∈ progs) : V.Spec Tryz.prog (Gl g) 210 [.c (cM 1 (intsD p))] [] (.c (cB true)) [] := by
 simp only [progs,mc,List.not_mem_nil,or_false] at hp;rcases hp with rfl | rfl | rfl | rfl | rfl | rfl | rfl | rfl | rfl | rfl | rfl | rfl | rfl | rfl | rfl | rfl | rfl | rfl;exact clos0;exact clos1;exact clos34;exact clos35;exact clos240;exact clos241;exact clos250;exact clos251;exact clos364;exact clos365;exact aPU;exact aPT;exact aPS;exact aPR;exact aPQ;exact aPP;exact aPO;exact aPN
theorem pick_ok (n : Int) : ∃ p,p ∈ progs /\ V.Spec Tryz.prog (Gl g) 86 [.agg g0C,.c (cI n)] [] (.c (cM 1 (intsD p))) [] := by
 have hb := dA n (m := 18) (by decide);have hm := dI (g := g) n 18 (by decide) (by decide);have hv : (mdV n 18).toNat < progs.length := by have : progs.length = 18 := rfl; omega
 have he : (progs.map fun p => [D.sl 1 (intsD p)])[(mdV n 18).toNat]? = some [.sl 1 (intsD (progs[(mdV n 18).toNat]))] := by rw [List.getElem?_map,ge hv]; rfl
 have hp : progs[(mdV n 18).toNat] ∈ progs := List.getElem_mem hv;revert he hp;generalize progs[(mdV n 18).toNat] = p;intro he hp;refine ⟨p,hp,?_⟩;simp only [progs,mc,List.not_mem_nil,or_false] at hp;rcases hp with rfl | rfl | rfl | rfl | rfl | rfl | rfl | rfl | rfl | rfl | rfl | rfl | rfl | rfl | rfl | rfl | rfl | rfl;exact aNC n _ 0 hm ⟨hb.1,he⟩;exact aNC n _ 1 hm ⟨hb.1,he⟩;exact aNB n _ 3 4 hm ⟨hb.1,he⟩;exact aNB n _ 3 5 hm ⟨hb.1,he⟩;exact o8 n _ 2 4 0 hm ⟨hb.1,he⟩;exact o8 n _ 2 4 1 hm ⟨hb.1,he⟩;exact o8 n _ 2 5 0 hm ⟨hb.1,he⟩;exact o8 n _ 2 5 1 hm ⟨hb.1,he⟩;exact o8 n _ 3 6 4 hm ⟨hb.1,he⟩;exact o8 n _ 3 6 5 hm ⟨hb.1,he⟩;exact jX n _ 2 4 3 4 hm ⟨hb.1,he⟩;exact jX n _ 2 4 3 5 hm ⟨hb.1,he⟩;exact jX n _ 2 5 3 4 hm ⟨hb.1,he⟩;exact jX n _ 2 5 3 5 hm ⟨hb.1,he⟩;exact jX n _ 2 6 4 0 hm ⟨hb.1,he⟩;exact jX n _ 2 6 4 1 hm ⟨hb.1,he⟩;exact jX n _ 2 6 5 0 hm ⟨hb.1,he⟩;exact jX n _ 2 6 5 1 hm ⟨hb.1,he⟩
theorem open_ok (p : List Int) (hp : p ∈ progs) (z : Int) : ∃ q : List Int,q.length <= 10 /\ (∀ x,x ∈ q -> -1 <= x /\ x <= 10) /\ V.Spec Tryz.prog (Gl g) 87 [.agg g0C,.c (cM 1 (intsD p)),.c (cI z)] [] (.c (cM 1 (intsD q))) [] := by
 simp only [progs,mc,List.not_mem_nil,or_false] at hp;rcases hp with rfl | rfl | rfl | rfl | rfl | rfl | rfl | rfl | rfl | rfl | rfl | rfl | rfl | rfl | rfl | rfl | rfl | rfl;have hb := dA z (m := 1) (by decide);have hm := dI (g := g) z 1 (by decide) (by decide);have hc : mdV z 1 = 0 := by omega
 have e := hc;rw [e] at hm; exact ⟨[-1],by decide,by decide,aJ9 z hm⟩;have hb := dA z (m := 1) (by decide);have hm := dI (g := g) z 1 (by decide) (by decide);have hc : mdV z 1 = 0 := by omega
 have e := hc;rw [e] at hm; exact ⟨[-1],by decide,by decide,aJ8 z hm⟩;have hb := dA z (m := 2) (by decide);have hm := dI (g := g) z 2 (by decide) (by decide);have hc : mdV z 2 = 0 \/ mdV z 2 = 1 := by omega
 rcases hc with e | e;rw [e] at hm; exact ⟨[-1],by decide,by decide,aJ7 z hm⟩;rw [e] at hm; exact ⟨[3,-1],by decide,by decide,aJ6 z hm⟩;have hb := dA z (m := 2) (by decide);have hm := dI (g := g) z 2 (by decide) (by decide);have hc : mdV z 2 = 0 \/ mdV z 2 = 1 := by omega
 rcases hc with e | e;rw [e] at hm; exact ⟨[-1],by decide,by decide,aJ5 z hm⟩;rw [e] at hm; exact ⟨[3,-1],by decide,by decide,aJ4 z hm⟩;have hb := dA z (m := 3) (by decide);have hm := dI (g := g) z 3 (by decide) (by decide);have hc : mdV z 3 = 0 \/ mdV z 3 = 1 \/ mdV z 3 = 2 := by omega
 rcases hc with e | e | e;rw [e] at hm; exact ⟨[-1],by decide,by decide,aJ3 z hm⟩;rw [e] at hm; exact ⟨[2,-1,0],by decide,by decide,aJ2 z hm⟩;rw [e] at hm; exact ⟨[2,4,-1],by decide,by decide,aJ1 z hm⟩;have hb := dA z (m := 3) (by decide);have hm := dI (g := g) z 3 (by decide) (by decide);have hc : mdV z 3 = 0 \/ mdV z 3 = 1 \/ mdV z 3 = 2 := by omega
 rcases hc with e | e | e;rw [e] at hm; exact ⟨[-1],by decide,by decide,aJ0 z hm⟩;rw [e] at hm; exact ⟨[2,-1,1],by decide,by decide,aJZ z hm⟩;rw [e] at hm; exact ⟨[2,4,-1],by decide,by decide,aJY z hm⟩;have hb := dA z (m := 3) (by decide);have hm := dI (g := g) z 3 (by decide) (by decide);have hc : mdV z 3 = 0 \/ mdV z 3 = 1 \/ mdV z 3 = 2 := by omega
 rcases hc with e | e | e;rw [e] at hm; exact ⟨[-1],by decide,by decide,aJX z hm⟩;rw [e] at hm; exact ⟨[2,-1,0],by decide,by decide,aJW z hm⟩;rw [e] at hm; exact ⟨[2,5,-1],by decide,by decide,aJV z hm⟩;have hb := dA z (m := 3) (by decide);have hm := dI (g := g) z 3 (by decide) (by decide);have hc : mdV z 3 = 0 \/ mdV z 3 = 1 \/ mdV z 3 = 2 := by omega
 rcases hc with e | e | e;rw [e] at hm; exact ⟨[-1],by decide,by decide,aJU z hm⟩;rw [e] at hm; exact ⟨[2,-1,1],by decide,by decide,aJT z hm⟩;rw [e] at hm; exact ⟨[2,5,-1],by decide,by decide,aJS z hm⟩;have hb := dA z (m := 3) (by decide);have hm := dI (g := g) z 3 (by decide) (by decide);have hc : mdV z 3 = 0 \/ mdV z 3 = 1 \/ mdV z 3 = 2 := by omega
 rcases hc with e | e | e;rw [e] at hm; exact ⟨[-1],by decide,by decide,aJR z hm⟩;rw [e] at hm; exact ⟨[3,-1],by decide,by decide,aJQ z hm⟩;rw [e] at hm; exact ⟨[3,6,-1],by decide,by decide,aJP z hm⟩;have hb := dA z (m := 3) (by decide);have hm := dI (g := g) z 3 (by decide) (by decide);have hc : mdV z 3 = 0 \/ mdV z 3 = 1 \/ mdV z 3 = 2 := by omega
 rcases hc with e | e | e;rw [e] at hm; exact ⟨[-1],by decide,by decide,aJO z hm⟩;rw [e] at hm; exact ⟨[3,-1],by decide,by decide,aJN z hm⟩;rw [e] at hm; exact ⟨[3,6,-1],by decide,by decide,aJM z hm⟩;have hb := dA z (m := 4) (by decide);have hm := dI (g := g) z 4 (by decide) (by decide);have hc : mdV z 4 = 0 \/ mdV z 4 = 1 \/ mdV z 4 = 2 \/ mdV z 4 = 3 := by omega
 rcases hc with e | e | e | e;rw [e] at hm; exact ⟨[-1],by decide,by decide,aE9 z hm⟩;rw [e] at hm; exact ⟨[2,-1,3,4],by decide,by decide,aE8 z hm⟩;rw [e] at hm; exact ⟨[2,4,-1],by decide,by decide,aE7 z hm⟩;rw [e] at hm; exact ⟨[2,4,3,-1],by decide,by decide,aE6 z hm⟩;have hb := dA z (m := 4) (by decide);have hm := dI (g := g) z 4 (by decide) (by decide);have hc : mdV z 4 = 0 \/ mdV z 4 = 1 \/ mdV z 4 = 2 \/ mdV z 4 = 3 := by omega
 rcases hc with e | e | e | e;rw [e] at hm; exact ⟨[-1],by decide,by decide,aE5 z hm⟩;rw [e] at hm; exact ⟨[2,-1,3,5],by decide,by decide,aE4 z hm⟩;rw [e] at hm; exact ⟨[2,4,-1],by decide,by decide,aE3 z hm⟩;rw [e] at hm; exact ⟨[2,4,3,-1],by decide,by decide,aE2 z hm⟩;have hb := dA z (m := 4) (by decide);have hm := dI (g := g) z 4 (by decide) (by decide);have hc : mdV z 4 = 0 \/ mdV z 4 = 1 \/ mdV z 4 = 2 \/ mdV z 4 = 3 := by omega
 rcases hc with e | e | e | e;rw [e] at hm; exact ⟨[-1],by decide,by decide,aE1 z hm⟩;rw [e] at hm; exact ⟨[2,-1,3,4],by decide,by decide,aE0 z hm⟩;rw [e] at hm; exact ⟨[2,5,-1],by decide,by decide,aEZ z hm⟩;rw [e] at hm; exact ⟨[2,5,3,-1],by decide,by decide,aEY z hm⟩;have hb := dA z (m := 4) (by decide);have hm := dI (g := g) z 4 (by decide) (by decide);have hc : mdV z 4 = 0 \/ mdV z 4 = 1 \/ mdV z 4 = 2 \/ mdV z 4 = 3 := by omega
 rcases hc with e | e | e | e;rw [e] at hm; exact ⟨[-1],by decide,by decide,aEX z hm⟩;rw [e] at hm; exact ⟨[2,-1,3,5],by decide,by decide,aEW z hm⟩;rw [e] at hm; exact ⟨[2,5,-1],by decide,by decide,aEV z hm⟩;rw [e] at hm; exact ⟨[2,5,3,-1],by decide,by decide,aEU z hm⟩;have hb := dA z (m := 4) (by decide);have hm := dI (g := g) z 4 (by decide) (by decide);have hc : mdV z 4 = 0 \/ mdV z 4 = 1 \/ mdV z 4 = 2 \/ mdV z 4 = 3 := by omega
 rcases hc with e | e | e | e;rw [e] at hm; exact ⟨[-1],by decide,by decide,aET z hm⟩;rw [e] at hm; exact ⟨[2,-1,0],by decide,by decide,aES z hm⟩;rw [e] at hm; exact ⟨[2,6,-1,0],by decide,by decide,aER z hm⟩;rw [e] at hm; exact ⟨[2,6,4,-1],by decide,by decide,aEQ z hm⟩;have hb := dA z (m := 4) (by decide);have hm := dI (g := g) z 4 (by decide) (by decide);have hc : mdV z 4 = 0 \/ mdV z 4 = 1 \/ mdV z 4 = 2 \/ mdV z 4 = 3 := by omega
 rcases hc with e | e | e | e;rw [e] at hm; exact ⟨[-1],by decide,by decide,aEP z hm⟩;rw [e] at hm; exact ⟨[2,-1,1],by decide,by decide,aEO z hm⟩;rw [e] at hm; exact ⟨[2,6,-1,1],by decide,by decide,aEN z hm⟩;rw [e] at hm; exact ⟨[2,6,4,-1],by decide,by decide,aEM z hm⟩;have hb := dA z (m := 4) (by decide);have hm := dI (g := g) z 4 (by decide) (by decide);have hc : mdV z 4 = 0 \/ mdV z 4 = 1 \/ mdV z 4 = 2 \/ mdV z 4 = 3 := by omega
 rcases hc with e | e | e | e;rw [e] at hm; exact ⟨[-1],by decide,by decide,aEL z hm⟩;rw [e] at hm; exact ⟨[2,-1,0],by decide,by decide,aEK z hm⟩;rw [e] at hm; exact ⟨[2,6,-1,0],by decide,by decide,aEJ z hm⟩;rw [e] at hm; exact ⟨[2,6,5,-1],by decide,by decide,aEI z hm⟩;have hb := dA z (m := 4) (by decide);have hm := dI (g := g) z 4 (by decide) (by decide);have hc : mdV z 4 = 0 \/ mdV z 4 = 1 \/ mdV z 4 = 2 \/ mdV z 4 = 3 := by omega
 rcases hc with e | e | e | e;rw [e] at hm; exact ⟨[-1],by decide,by decide,aEH z hm⟩;rw [e] at hm; exact ⟨[2,-1,1],by decide,by decide,aEG z hm⟩;rw [e] at hm; exact ⟨[2,6,-1,1],by decide,by decide,aEF z hm⟩;rw [e] at hm; exact ⟨[2,6,5,-1],by decide,by decide,aEE z hm⟩
theorem vH (a b : Tv) (ha : Cok a) (hb : Cok b) (p : List Int) (hp : p ∈ progs) : (∃ s,bU (some s) /\ SX g 89 [.agg g0C,oM,.c (cM 1 (intsD p)),.c (cM 7 [TvD a,TvD b])] (aT (S s))) \/ SX g 89 [.agg g0C,oM,.c (cM 1 (intsD p)),.c (cM 7 [TvD a,TvD b])] (oF 16) \/ SX g 89 [.agg g0C,oM,.c (cM 1 (intsD p)),.c (cM 7 [TvD a,TvD b])] (oF 18) := by
 obtain ⟨r,hr,he⟩ := evT_ok (g := g) a b ha hb p hp;rcases hr with ⟨s,hs,rfl⟩ | rfl | rfl;exact .inl ⟨s,hs,aMU _ _ (S s) (evalXT _ _ (S s) ⟨he,aAV p hp,x7 p hp⟩)⟩;exact .inr (.inl (aJE _ _ ⟨kD,aOZ _ _ 16 ⟨he,aAV p hp,x7 p hp⟩⟩));exact .inr (.inr (aJD _ _ ⟨aAJ,aOZ _ _ 18 ⟨he,aAV p hp,x7 p hp⟩⟩))
end
section
variable {g : Gv}
def fsL (g : Gv) (l : List Int) (kd a r t n q1 q2 q3 q4 q5 : Int) (ps : LD) : List Prop := [Nx g l q4 3000 n q5,SX g 86 [.agg g0C,.c (cI n)] (.c (cM 1 ps)),Nx g l 0 3 a q1,Go.Eng.inR (1 + a),Nx g l q1 5 r q2,Nx g l q2 9 t q3,Nx g l q3 5 kd q4]
def rwL (g : Gv) (l : List Int) (ps row : LD) (res : SV) (w n1 n2 n3 n4 n5 q5 q6 q7 q8 q9 q10 q11 : Int) (m : List Prop) : List Prop := SX g 90 [.agg g0C] (.c (cI 1)) :: Nx g l q10 8 w q11 :: SX g 85 [.c (.d nlD)] (oM) :: SX g 89 [.agg g0C,oM,.c (cM 1 ps),.c (cM 7 row)] (res) :: Nx g l q5 96 n1 q6 :: Nx g l q6 96 n2 q7 :: Nx g l q7 96 n3 q8 :: Nx g l q8 96 n4 q9 :: Nx g l q9 96 n5 q10 :: SX g 88 [.agg g0C,.c (cM 1 [[.i n1],[.i n2],[.i n3],[.i n4],[.i n5]])] (.c (cM 7 row)) :: m
def vaS (g : Gv) (l : List Int) (q q2 : Int) (y : ByteArray) : Prop := V.Spec Tryz.prog (Gl g) 91 [.c (.bx 0 0),.c (cI 1)] [(0,y14 (intsD l) q)] (aT y) [(0,y14 (intsD l) q2)]
def mkT (x : List (Nat × Int × Int)) (ps row : LD) (res : SV) (m : List (Ent Tryz.prog (Gl g))) : List (Ent Tryz.prog (Gl g)) := wR (tl2 x) :: a7 86 (.c (cM 1 ps)) :: a7 88 (.c (cM 7 row)) :: a7 85 (oM) :: a7 89 res :: a7 90 (.c (cI 1)) :: m
def tlX (kd a r t n n1 n2 n3 n4 n5 w q1 q2 q3 q4 q5 q6 q7 q8 q9 q10 q11 : Int) (m : List (Nat × Int × Int)) : List (Nat × Int × Int) := (108,a,q1) :: (112,r,q2) :: (115,t,q3) :: (119,kd,q4) :: (128,n,q5) :: (137,n1,q6) :: (140,n2,q7) :: (143,n3,q8) :: (146,n4,q9) :: (149,n5,q10) :: (164,w,q11) :: m
def shapes : List (List UInt8) := [[92,46,42],[92,97,42,92,46,42],[92,100,43],[92,117,42],[92,46,123,49,44,57,125]]
abbrev y46 (a0 : Int) (a1 : Int) (a2 : Int) (a3 : Int) (a4 : Int) (a5 : LD) (a6 : ByteArray) : SV := .agg [cI a0,cI a1,cI a2,cI a3,cI a4,cM 7 a5,cI 1,cS a6,cI 0,cI 0,cI 0,cM 1 [],cM 1 [],cS (S []),cS (S []),.d nlD]
def MkST (g : Gv) (kd K : Int) : Prop := ∀ (l : List Int) (id a r t n q1 q2 q3 q4 q5 : Int) (ps : LD) (w n1 n2 n3 n4 n5 q6 q7 q8 q9 q10 q11 : Int) (row : LD) (s : ByteArray),conj ((decide (w = 7) = false) :: rwL g l ps row (aT s) w n1 n2 n3 n4 n5 q5 q6 q7 q8 q9 q10 q11 (fsL g l kd a r t n q1 q2 q3 q4 q5 ps)) -> SX g 43 [.agg g0C,.c (cI id),.c (cM 1 (intsD l))] (y46 id (1 + a) r t K row s)
theorem mk0T : MkST g 0 1 := fun l id a r t n q1 q2 q3 q4 q5 ps w n1 n2 n3 n4 n5 q6 q7 q8 q9 q10 q11 row s h =>
 sX (tlO [(110,true),(176,false)]) (fun k => mkL [152] [] k) nFQ (T := mkT (tlX 0 a r t n n1 n2 n3 n4 n5 w q1 q2 q3 q4 q5 q6 q7 q8 q9 q10 q11 []) ps row (aT s) []) (by kernel_rfl) h
def MkSO (g : Gv) (kd K : Int) : Prop := ∀ (l : List Int) (id a r t n q1 q2 q3 q4 q5 : Int) (ps : LD) (w n1 n2 n3 n4 n5 q6 q7 q8 q9 q10 q11 : Int) (row : LD) (q12 : Int) (s y : ByteArray),conj (SX g 90 [.agg g0C] (.c (cI 1)) :: vaS g l q11 q12 y :: (decide (w = 7) = true) :: rwL g l ps row (aT s) w n1 n2 n3 n4 n5 q5 q6 q7 q8 q9 q10 q11 (fsL g l kd a r t n q1 q2 q3 q4 q5 ps)) -> SX g 43 [.agg g0C,.c (cI id),.c (cM 1 (intsD l))] (y46 id (1 + a) r t K row y)
theorem mk0O : MkSO g 0 1 := fun l id a r t n q1 q2 q3 q4 q5 ps w n1 n2 n3 n4 n5 q6 q7 q8 q9 q10 q11 row q12 s y h =>
 sX (tlO [(110,true),(176,true)]) (fun k => mkL [152] [] k) nFQ (T := mkT (tlX 0 a r t n n1 n2 n3 n4 n5 w q1 q2 q3 q4 q5 q6 q7 q8 q9 q10 q11 []) ps row (aT s) [eBx 91 (fun _ => some (aT y,q12))]) (by kernel_rfl) h
def aA5 (g : Gv) (kd K : Int) : Prop := ∀ (l : List Int) (id a r t n q1 q2 q3 q4 q5 : Int) (ps : LD) (w n1 n2 n3 n4 n5 q6 q7 q8 q9 q10 q11 : Int) (row : LD) (q12 : Int) (y : ByteArray),conj (SX g 90 [.agg g0C] (.c (cI 1)) :: vaS g l q11 q12 y :: rwL g l ps row (oF 16) w n1 n2 n3 n4 n5 q5 q6 q7 q8 q9 q10 q11 (fsL g l kd a r t n q1 q2 q3 q4 q5 ps)) -> SX g 43 [.agg g0C,.c (cI id),.c (cM 1 (intsD l))] (y46 id (1 + a) r t K row y)
theorem mk0N16 : aA5 g 0 1 := fun l id a r t n q1 q2 q3 q4 q5 ps w n1 n2 n3 n4 n5 q6 q7 q8 q9 q10 q11 row q12 y h =>
 sX (tlO [(110,true)]) (fun k => mkL [152] [] k) nFQ (T := mkT (tlX 0 a r t n n1 n2 n3 n4 n5 w q1 q2 q3 q4 q5 q6 q7 q8 q9 q10 q11 []) ps row (oF 16) [eBx 91 (fun _ => some (aT y,q12))]) (by kernel_rfl) h
def aA4 (g : Gv) (kd K : Int) : Prop := ∀ (l : List Int) (id a r t n q1 q2 q3 q4 q5 : Int) (ps : LD) (w n1 n2 n3 n4 n5 q6 q7 q8 q9 q10 q11 : Int) (row : LD) (q12 : Int) (y : ByteArray),conj (SX g 90 [.agg g0C] (.c (cI 1)) :: vaS g l q11 q12 y :: rwL g l ps row (oF 18) w n1 n2 n3 n4 n5 q5 q6 q7 q8 q9 q10 q11 (fsL g l kd a r t n q1 q2 q3 q4 q5 ps)) -> SX g 43 [.agg g0C,.c (cI id),.c (cM 1 (intsD l))] (y46 id (1 + a) r t K row y)
theorem mk0N18 : aA4 g 0 1 := fun l id a r t n q1 q2 q3 q4 q5 ps w n1 n2 n3 n4 n5 q6 q7 q8 q9 q10 q11 row q12 y h =>
 sX (tlO [(110,true)]) (fun k => mkL [152] [] k) nFQ (T := mkT (tlX 0 a r t n n1 n2 n3 n4 n5 w q1 q2 q3 q4 q5 q6 q7 q8 q9 q10 q11 []) ps row (oF 18) [eBx 91 (fun _ => some (aT y,q12))]) (by kernel_rfl) h
theorem mk1T : MkST g 1 1 := fun l id a r t n q1 q2 q3 q4 q5 ps w n1 n2 n3 n4 n5 q6 q7 q8 q9 q10 q11 row s h =>
 sX (tlO [(110,true),(176,false)]) (fun k => mkL [152] [] k) nFQ (T := mkT (tlX 1 a r t n n1 n2 n3 n4 n5 w q1 q2 q3 q4 q5 q6 q7 q8 q9 q10 q11 []) ps row (aT s) []) (by kernel_rfl) h
theorem mk1O : MkSO g 1 1 := fun l id a r t n q1 q2 q3 q4 q5 ps w n1 n2 n3 n4 n5 q6 q7 q8 q9 q10 q11 row q12 s y h =>
 sX (tlO [(110,true),(176,true)]) (fun k => mkL [152] [] k) nFQ (T := mkT (tlX 1 a r t n n1 n2 n3 n4 n5 w q1 q2 q3 q4 q5 q6 q7 q8 q9 q10 q11 []) ps row (aT s) [eBx 91 (fun _ => some (aT y,q12))]) (by kernel_rfl) h
theorem mk1N16 : aA5 g 1 1 := fun l id a r t n q1 q2 q3 q4 q5 ps w n1 n2 n3 n4 n5 q6 q7 q8 q9 q10 q11 row q12 y h =>
 sX (tlO [(110,true)]) (fun k => mkL [152] [] k) nFQ (T := mkT (tlX 1 a r t n n1 n2 n3 n4 n5 w q1 q2 q3 q4 q5 q6 q7 q8 q9 q10 q11 []) ps row (oF 16) [eBx 91 (fun _ => some (aT y,q12))]) (by kernel_rfl) h
theorem mk1N18 : aA4 g 1 1 := fun l id a r t n q1 q2 q3 q4 q5 ps w n1 n2 n3 n4 n5 q6 q7 q8 q9 q10 q11 row q12 y h =>
 sX (tlO [(110,true)]) (fun k => mkL [152] [] k) nFQ (T := mkT (tlX 1 a r t n n1 n2 n3 n4 n5 w q1 q2 q3 q4 q5 q6 q7 q8 q9 q10 q11 []) ps row (oF 18) [eBx 91 (fun _ => some (aT y,q12))]) (by kernel_rfl) h
abbrev y47 (a0 : Int) (a1 : Int) (a2 : Int) (a3 : Int) (a4 : LD) (a5 : ByteArray) : SV := .agg [cI a0,cI a1,cI a2,cI a3,cI 3,cM 7 a4,cI 0,cS (S []),cI 0,cI 0,cI 0,.d nlD,.d nlD,cS (S [105,115]),cS a5,.d nlD]
theorem mk2T0 (l : List Int) (id a r t n q1 q2 q3 q4 q5 : Int) (ps : LD) (w n1 n2 n3 n4 n5 q6 q7 q8 q9 q10 q11 : Int) (row : LD) (s : ByteArray) (u q13 : Int) (x : ByteArray) (h : conj ((decide (u = 0) = true) :: Nx g l q11 4 u q13 :: SX g 92 [aT s] (.c (cS x)) :: (decide (w = 7) = false) :: rwL g l ps row (aT s) w n1 n2 n3 n4 n5 q5 q6 q7 q8 q9 q10 q11 (fsL g l 2 a r t n q1 q2 q3 q4 q5 ps))) : SX g 43 [.agg g0C,.c (cI id),.c (cM 1 (intsD l))] (y47 id (1 + a) r t row x) :=
 sX (tlO [(110,true),(176,false),(197,true)]) (fun k => mkL [152] [] k) nFQ (T := mkT (tlX 2 a r t n n1 n2 n3 n4 n5 w q1 q2 q3 q4 q5 q6 q7 q8 q9 q10 q11 [(194,u,q13)]) ps row (aT s) [a7 92 (.c (cS x))]) (by kernel_rfl) h
abbrev y48 (a0 : Int) (a1 : Int) (a2 : Int) (a3 : Int) (a4 : LD) (a5 : ByteArray) : SV := .agg [cI a0,cI a1,cI a2,cI a3,cI 3,cM 7 a4,cI 0,cS (S []),cI 0,cI 0,cI 0,.d nlD,.d nlD,cS (S [115,104,97,112,101]),cS a5,.d nlD]
theorem mk2T1 (l : List Int) (id a r t n q1 q2 q3 q4 q5 : Int) (ps : LD) (w n1 n2 n3 n4 n5 q6 q7 q8 q9 q10 q11 : Int) (row : LD) (s : ByteArray) (u q13 : Int) (x : ByteArray) (v q14 : Int) (x2 : ByteArray) (h : conj (Nx g l q13 5 v q14 :: (0 <= v /\ (shapes.map fun t => [D.s (S t)])[v.toNat]? = some [.s x2]) :: (decide (u = 0) = false) :: Nx g l q11 4 u q13 :: SX g 92 [aT s] (.c (cS x)) :: (decide (w = 7) = false) :: rwL g l ps row (aT s) w n1 n2 n3 n4 n5 q5 q6 q7 q8 q9 q10 q11 (fsL g l 2 a r t n q1 q2 q3 q4 q5 ps))) : SX g 43 [.agg g0C,.c (cI id),.c (cM 1 (intsD l))] (y48 id (1 + a) r t row x2) :=
 sX (tlO [(110,true),(176,false),(197,false),(207,true)]) (fun k => mkL [152] [] k) (tlH [(207,[.s x2])]) (T := mkT (tlX 2 a r t n n1 n2 n3 n4 n5 w q1 q2 q3 q4 q5 q6 q7 q8 q9 q10 q11 [(194,u,q13),(205,v,q14)]) ps row (aT s) [a7 92 (.c (cS x))]) (by kernel_rfl) h
theorem mk2O0 (l : List Int) (id a r t n q1 q2 q3 q4 q5 : Int) (ps : LD) (w n1 n2 n3 n4 n5 q6 q7 q8 q9 q10 q11 : Int) (row : LD) (q12 : Int) (s y : ByteArray) (u q13 : Int) (x : ByteArray) (h : conj ((decide (u = 0) = true) :: Nx g l q12 4 u q13 :: SX g 92 [aT y] (.c (cS x)) :: SX g 90 [.agg g0C] (.c (cI 1)) :: vaS g l q11 q12 y :: (decide (w = 7) = true) :: rwL g l ps row (aT s) w n1 n2 n3 n4 n5 q5 q6 q7 q8 q9 q10 q11 (fsL g l 2 a r t n q1 q2 q3 q4 q5 ps))) : SX g 43 [.agg g0C,.c (cI id),.c (cM 1 (intsD l))] (y47 id (1 + a) r t row x) :=
 sX (tlO [(110,true),(176,true),(203,true)]) (fun k => mkL [152] [] k) nFQ (T := mkT (tlX 2 a r t n n1 n2 n3 n4 n5 w q1 q2 q3 q4 q5 q6 q7 q8 q9 q10 q11 [(200,u,q13)]) ps row (aT s) [eBx 91 (fun _ => some (aT y,q12)),a7 92 (.c (cS x))]) (by kernel_rfl) h
theorem mk2O1 (l : List Int) (id a r t n q1 q2 q3 q4 q5 : Int) (ps : LD) (w n1 n2 n3 n4 n5 q6 q7 q8 q9 q10 q11 : Int) (row : LD) (q12 : Int) (s y : ByteArray) (u q13 : Int) (x : ByteArray) (v q14 : Int) (x2 : ByteArray) (h : conj (Nx g l q13 5 v q14 :: (0 <= v /\ (shapes.map fun t => [D.s (S t)])[v.toNat]? = some [.s x2]) :: (decide (u = 0) = false) :: Nx g l q12 4 u q13 :: SX g 92 [aT y] (.c (cS x)) :: SX g 90 [.agg g0C] (.c (cI 1)) :: vaS g l q11 q12 y :: (decide (w = 7) = true) :: rwL g l ps row (aT s) w n1 n2 n3 n4 n5 q5 q6 q7 q8 q9 q10 q11 (fsL g l 2 a r t n q1 q2 q3 q4 q5 ps))) : SX g 43 [.agg g0C,.c (cI id),.c (cM 1 (intsD l))] (y48 id (1 + a) r t row x2) :=
 sX (tlO [(110,true),(176,true),(203,false),(213,true)]) (fun k => mkL [152] [] k) (tlH [(213,[.s x2])]) (T := mkT (tlX 2 a r t n n1 n2 n3 n4 n5 w q1 q2 q3 q4 q5 q6 q7 q8 q9 q10 q11 [(200,u,q13),(211,v,q14)]) ps row (aT s) [eBx 91 (fun _ => some (aT y,q12)),a7 92 (.c (cS x))]) (by kernel_rfl) h
theorem mk2N160 (l : List Int) (id a r t n q1 q2 q3 q4 q5 : Int) (ps : LD) (w n1 n2 n3 n4 n5 q6 q7 q8 q9 q10 q11 : Int) (row : LD) (q12 : Int) (y : ByteArray) (u q13 : Int) (x : ByteArray) (h : conj ((decide (u = 0) = true) :: Nx g l q12 4 u q13 :: SX g 92 [aT y] (.c (cS x)) :: SX g 90 [.agg g0C] (.c (cI 1)) :: vaS g l q11 q12 y :: rwL g l ps row (oF 16) w n1 n2 n3 n4 n5 q5 q6 q7 q8 q9 q10 q11 (fsL g l 2 a r t n q1 q2 q3 q4 q5 ps))) : SX g 43 [.agg g0C,.c (cI id),.c (cM 1 (intsD l))] (y47 id (1 + a) r t row x) :=
 sX (tlO [(110,true),(202,true)]) (fun k => mkL [152] [] k) nFQ (T := mkT (tlX 2 a r t n n1 n2 n3 n4 n5 w q1 q2 q3 q4 q5 q6 q7 q8 q9 q10 q11 [(199,u,q13)]) ps row (oF 16) [eBx 91 (fun _ => some (aT y,q12)),a7 92 (.c (cS x))]) (by kernel_rfl) h
theorem mk2N161 (l : List Int) (id a r t n q1 q2 q3 q4 q5 : Int) (ps : LD) (w n1 n2 n3 n4 n5 q6 q7 q8 q9 q10 q11 : Int) (row : LD) (q12 : Int) (y : ByteArray) (u q13 : Int) (x : ByteArray) (v q14 : Int) (x2 : ByteArray) (h : conj (Nx g l q13 5 v q14 :: (0 <= v /\ (shapes.map fun t => [D.s (S t)])[v.toNat]? = some [.s x2]) :: (decide (u = 0) = false) :: Nx g l q12 4 u q13 :: SX g 92 [aT y] (.c (cS x)) :: SX g 90 [.agg g0C] (.c (cI 1)) :: vaS g l q11 q12 y :: rwL g l ps row (oF 16) w n1 n2 n3 n4 n5 q5 q6 q7 q8 q9 q10 q11 (fsL g l 2 a r t n q1 q2 q3 q4 q5 ps))) : SX g 43 [.agg g0C,.c (cI id),.c (cM 1 (intsD l))] (y48 id (1 + a) r t row x2) :=
 sX (tlO [(110,true),(202,false),(212,true)]) (fun k => mkL [152] [] k) (tlH [(212,[.s x2])]) (T := mkT (tlX 2 a r t n n1 n2 n3 n4 n5 w q1 q2 q3 q4 q5 q6 q7 q8 q9 q10 q11 [(199,u,q13),(210,v,q14)]) ps row (oF 16) [eBx 91 (fun _ => some (aT y,q12)),a7 92 (.c (cS x))]) (by kernel_rfl) h
theorem mk2N180 (l : List Int) (id a r t n q1 q2 q3 q4 q5 : Int) (ps : LD) (w n1 n2 n3 n4 n5 q6 q7 q8 q9 q10 q11 : Int) (row : LD) (q12 : Int) (y : ByteArray) (u q13 : Int) (x : ByteArray) (h : conj ((decide (u = 0) = true) :: Nx g l q12 4 u q13 :: SX g 92 [aT y] (.c (cS x)) :: SX g 90 [.agg g0C] (.c (cI 1)) :: vaS g l q11 q12 y :: rwL g l ps row (oF 18) w n1 n2 n3 n4 n5 q5 q6 q7 q8 q9 q10 q11 (fsL g l 2 a r t n q1 q2 q3 q4 q5 ps))) : SX g 43 [.agg g0C,.c (cI id),.c (cM 1 (intsD l))] (y47 id (1 + a) r t row x) :=
 sX (tlO [(110,true),(202,true)]) (fun k => mkL [152] [] k) nFQ (T := mkT (tlX 2 a r t n n1 n2 n3 n4 n5 w q1 q2 q3 q4 q5 q6 q7 q8 q9 q10 q11 [(199,u,q13)]) ps row (oF 18) [eBx 91 (fun _ => some (aT y,q12)),a7 92 (.c (cS x))]) (by kernel_rfl) h
theorem mk2N181 (l : List Int) (id a r t n q1 q2 q3 q4 q5 : Int) (ps : LD) (w n1 n2 n3 n4 n5 q6 q7 q8 q9 q10 q11 : Int) (row : LD) (q12 : Int) (y : ByteArray) (u q13 : Int) (x : ByteArray) (v q14 : Int) (x2 : ByteArray) (h : conj (Nx g l q13 5 v q14 :: (0 <= v /\ (shapes.map fun t => [D.s (S t)])[v.toNat]? = some [.s x2]) :: (decide (u = 0) = false) :: Nx g l q12 4 u q13 :: SX g 92 [aT y] (.c (cS x)) :: SX g 90 [.agg g0C] (.c (cI 1)) :: vaS g l q11 q12 y :: rwL g l ps row (oF 18) w n1 n2 n3 n4 n5 q5 q6 q7 q8 q9 q10 q11 (fsL g l 2 a r t n q1 q2 q3 q4 q5 ps))) : SX g 43 [.agg g0C,.c (cI id),.c (cM 1 (intsD l))] (y48 id (1 + a) r t row x2) :=
 sX (tlO [(110,true),(202,false),(212,true)]) (fun k => mkL [152] [] k) (tlH [(212,[.s x2])]) (T := mkT (tlX 2 a r t n n1 n2 n3 n4 n5 w q1 q2 q3 q4 q5 q6 q7 q8 q9 q10 q11 [(199,u,q13),(210,v,q14)]) ps row (oF 18) [eBx 91 (fun _ => some (aT y,q12)),a7 92 (.c (cS x))]) (by kernel_rfl) h
theorem mk3T : MkST g 3 2 := fun l id a r t n q1 q2 q3 q4 q5 ps w n1 n2 n3 n4 n5 q6 q7 q8 q9 q10 q11 row s h =>
 sX (tlO [(110,true),(176,false)]) (fun k => mkL [152] [] k) nFQ (T := mkT (tlX 3 a r t n n1 n2 n3 n4 n5 w q1 q2 q3 q4 q5 q6 q7 q8 q9 q10 q11 []) ps row (aT s) []) (by kernel_rfl) h
theorem mk3O : MkSO g 3 2 := fun l id a r t n q1 q2 q3 q4 q5 ps w n1 n2 n3 n4 n5 q6 q7 q8 q9 q10 q11 row q12 s y h =>
 sX (tlO [(110,true),(176,true)]) (fun k => mkL [152] [] k) nFQ (T := mkT (tlX 3 a r t n n1 n2 n3 n4 n5 w q1 q2 q3 q4 q5 q6 q7 q8 q9 q10 q11 []) ps row (aT s) [eBx 91 (fun _ => some (aT y,q12))]) (by kernel_rfl) h
theorem mk3N16 : aA5 g 3 2 := fun l id a r t n q1 q2 q3 q4 q5 ps w n1 n2 n3 n4 n5 q6 q7 q8 q9 q10 q11 row q12 y h =>
 sX (tlO [(110,true)]) (fun k => mkL [152] [] k) nFQ (T := mkT (tlX 3 a r t n n1 n2 n3 n4 n5 w q1 q2 q3 q4 q5 q6 q7 q8 q9 q10 q11 []) ps row (oF 16) [eBx 91 (fun _ => some (aT y,q12))]) (by kernel_rfl) h
theorem mk3N18 : aA4 g 3 2 := fun l id a r t n q1 q2 q3 q4 q5 ps w n1 n2 n3 n4 n5 q6 q7 q8 q9 q10 q11 row q12 y h =>
 sX (tlO [(110,true)]) (fun k => mkL [152] [] k) nFQ (T := mkT (tlX 3 a r t n n1 n2 n3 n4 n5 w q1 q2 q3 q4 q5 q6 q7 q8 q9 q10 q11 []) ps row (oF 18) [eBx 91 (fun _ => some (aT y,q12))]) (by kernel_rfl) h
theorem mk4 (l : List Int) (id a r t n q1 q2 q3 q4 q5 : Int) (ps : LD) (z q6 : Int) (os : LD) (h : conj (Nx g l q5 20 z q6 :: SX g 87 [.agg g0C,.c (cM 1 ps),.c (cI z)] (.c (cM 1 os)) :: fsL g l 4 a r t n q1 q2 q3 q4 q5 ps)) : SX g 43 [.agg g0C,.c (cI id),.c (cM 1 (intsD l))] (.agg [cI id,cI (1 + a),cI r,cI t,cI 4,.d nlD,cI 0,cS (S []),cI 0,cI 0,cI 0,.d nlD,.d nlD,cS (S []),cS (S []),cM 1 os]) :=
 sX (tlO [(110,true)]) nFQ nFQ (T := [wR (tl2 [(108,a,q1),(112,r,q2),(115,t,q3),(119,4,q4),(128,n,q5),(138,z,q6)]),a7 86 (.c (cM 1 ps)),a7 87 (.c (cM 1 os))]) (by kernel_rfl) h
end
section
open Go.Eng (u8)
variable {g : Gv}
theorem eC  : SX g 90 [.agg g0C] (.c (cI 1)) :=
 kS1 []
theorem vP {l : List UInt8} (h : l.all d2 = true) (hl : l.length <= 200) : bU (some l) := by
 have e : bs (S l) = l := by simp [bs,S]
 simp only [bU,tvS,cZ,bIQ,decide_eq_true_eq,aQ,e];exact ⟨h,by omega⟩
theorem aNN (l : List Int) (k : Int) : d2 (u8 (32 + nxV l k 95)) = true := by
 have := dK l k (n := 95) (by decide);simp only [d2,u8,bIQ,decide_eq_true_eq,UInt8.toNat_ofNat'];omega
theorem aIA (l : List Int) : ∀ (n : Nat) (k : Int),(chM l n k).1.all d2 = true
 | 0,k => rfl
 | n + 1,k => by simp only [chM,List.all_cons,aNN,aIA l n,Bool.and_true]
theorem aDP : ∀ i,i < 15 -> (wordsL.getD i []).all d2 = true /\ (wordsL.getD i []).length <= 200 := by decide
theorem u6 (l : List Int) (k : Int) : bU (some (txM l k).1) := by
 unfold txM; split;have := dK l k (n := 18) (by decide);have h := aDP (nxV l k 18).toNat (by omega)
 exact vP h.1 h.2;exact vP (aIA l _ _) (by rw [aPW]; have := txN_bd l k; omega)
theorem val_ok (l : List Int) (k : Int) (h : NumOk l k) : V.Spec Tryz.prog (Gl g) 91 [.c (.bx 0 0),.c (cI 1)] [(0,y14 (intsD l) k)] (aT (S (txM l k).1)) [(0,.box 162 [cM 1 (intsD l),.d (.i (txM l k).2)])] := by
 exact eB (l := [.i 1,.s (S (txM l k).1),.i 0,.i 0,.i 0,nlD,nlD]) (val1_ok l k h) (v6 _)
theorem mQ (s : List UInt8) (h : bU (some s)) : ∃ x : List UInt8,x.length <= 500 /\ V.Spec Tryz.prog (Gl g) 92 [aT (S s)] [] (.c (cS (S x))) [] := by
 have hl : s.length <= 200 := iE h;refine ⟨quoL s,?_,textX (S s) (S (quoL s)) ⟨aJJ s (by omega),jV s h⟩⟩;have := pP s;unfold quoL;simp;omega
theorem nV {a : Int} {n : Int} (h0 : 0 <= a) (h1 : a < n) (hn : n <= 1000000) : Go.Eng.inR (1 + a) := by unfold Go.Eng.inR; omega
theorem i6 : ∀ t,t ∈ shapes -> t.length <= 500 := by decide
def aA6 (g : Gv) (l : List Int) (id : Int) : Prop := ∃ it : It,ItOk it /\ it.id = id /\ V.Spec Tryz.prog (Gl g) 43 [.agg g0C,.c (cI id),.c (cM 1 (intsD l))] [] (.agg ((ItD it).map .d)) []
theorem cA {n : Int} (h0 : 0 <= n) (h1 : n < 100000) : nOk n := ⟨by omega,by omega⟩
theorem made4 (l : List Int) (id a r t n q1 q2 q3 q4 q5 : Int) (hid : nOk id) (ha : 0 <= a /\ a < 3) (hr : 0 <= r /\ r < 5) (ht : 0 <= t /\ t < 9) (x1 : Nx g l 0 3 a q1) (x2 : Nx g l q1 5 r q2) (x3 : Nx g l q2 9 t q3) (x4 : Nx g l q3 5 4 q4) (x5 : Nx g l q4 3000 n q5) (h5 : NumOk l q5) (p : List Int) (hp : p ∈ progs) (hk : V.Spec Tryz.prog (Gl g) 86 [.agg g0C,.c (cI n)] [] (.c (cM 1 (intsD p))) []) : aA6 g l id := by
 obtain ⟨q,hq,hm,ho⟩ := open_ok (g := g) p hp (nxV l q5 20);refine ⟨⟨id,1 + a,r,t,4,[],none,[],[],q⟩,⟨hid,cA (by show 0 <= 1 + a; omega) (by show 1 + a < _; omega),cA hr.1 (by show r < _; omega),cA ht.1 (by show t < _; omega),cA (n := 4) (by decide) (by decide),zl _,(fun v hv => by cases hv),fK,zl _,zl _,(by show q.length <= 1000; omega),(fun y hy => ⟨by have := hm y hy; omega,by have := hm y hy; omega⟩)⟩,rfl,?_⟩;exact eB (l := [.i id,.i (1 + a),.i r,.i t,.i 4,nlD,.i 0,.s (S []),.i 0,.i 0,.i 0,nlD,nlD,.s (S []),.s (S []),.sl 1 (intsD q)]) (mk4 _ _ _ _ _ _ _ _ _ _ _ _ _ _ _ ⟨cR l q5 20 h5 (by decide),ho,x5,hk,x1,nV ha.1 ha.2 (by decide),x2,x3,x4⟩) (.cons (.refl _) (.cons (.refl _) (.cons (.refl _) (.cons (.refl _) (.cons (.refl _) (.cons (.nil 7) (.cons (.refl _) (.cons (.refl _) (.cons (.refl _) (.cons (.refl _) (.cons (.refl _) (.cons (.nil 1) (.cons (.nil 1) (.cons (.refl _) (.cons (.refl _) (.cons (.refl _) (.nil)))))))))))))))))
def k10 (l : List Int) (q5 : Int) : Int := nxK l (nxK l (nxK l (nxK l (nxK l q5 96) 96) 96) 96) 96
def k11 (l : List Int) (q5 : Int) : Int := nxK l (k10 l q5) 8
def vT (l : List Int) (q5 : Int) : List UInt8 := (txM l (k11 l q5)).1
theorem aN1 {kd K : Int} (hK : nOk K) (mT : MkST g kd K) (mO : MkSO g kd K) (mN16 : aA5 g kd K) (mN18 : aA4 g kd K) (l : List Int) (id a r t n q1 q2 q3 q4 q5 : Int) (hid : nOk id) (ha : 0 <= a /\ a < 3) (hr : 0 <= r /\ r < 5) (ht : 0 <= t /\ t < 9) (x1 : Nx g l 0 3 a q1) (x2 : Nx g l q1 5 r q2) (x3 : Nx g l q2 9 t q3) (x4 : Nx g l q3 5 kd q4) (x5 : Nx g l q4 3000 n q5) (h5 : NumOk l q5) (p : List Int) (hp : p ∈ progs) (hk : V.Spec Tryz.prog (Gl g) 86 [.agg g0C,.c (cI n)] [] (.c (cM 1 (intsD p))) []) : aA6 g l id := by
 have n6 := h5.next 96;have n7 := n6.next 96;have n8 := n7.next 96;have n9 := n8.next 96;have n10 := n9.next 96;have n11 := n10.next 8;obtain ⟨a',b',ca,cb,hrow⟩ := aMS (g := g) [nxV l q5 96,nxV l (nxK l q5 96) 96,nxV l (nxK l (nxK l q5 96) 96) 96,nxV l (nxK l (nxK l (nxK l q5 96) 96) 96) 96,nxV l (nxK l (nxK l (nxK l (nxK l q5 96) 96) 96) 96) 96] ⟨Int.le_refl _,by simp,by simp⟩;have y1 := cR (g := g) l _ 96 h5 (by decide);have y2 := cR (g := g) l _ 96 n6 (by decide);have y3 := cR (g := g) l _ 96 n7 (by decide);have y4 := cR (g := g) l _ 96 n8 (by decide);have y5 := cR (g := g) l _ 96 n9 (by decide);have y6 := cR (g := g) l _ 8 n10 (by decide);have v11 := val_ok (g := g) l _ n11;have vr := u6 l (k11 l q5);have cells : ∀ v,v ∈ [a',b'] -> bU v := by
  intro v hv;simp only [mc,List.not_mem_nil,or_false] at hv;rcases hv with rfl | rfl
  ·exact ca.ok
  ·exact cb.ok
 rcases vH (g := g) a' b' ca cb p hp with ⟨s,hs,hres⟩ | hres | hres
 ·by_cases c : nxV l (k10 l q5) 8 = 7
  ·refine ⟨⟨id,1 + a,r,t,K,[a',b'],some (vT l q5),[],[],[]⟩,⟨hid,cA (by show 0 <= 1 + a; omega) (by show 1 + a < _; omega),cA hr.1 (by show r < _; omega),cA ht.1 (by show t < _; omega),hK,(by show (2 : Nat) <= 8; omega),cells,vr,zl _,zl _,zl _,(fun y hy => by cases hy)⟩,rfl,?_⟩
   exact eB (l := [.i id,.i (1 + a),.i r,.i t,.i K,.sl 7 [TvD a',TvD b'],.i 1,.s (S (vT l q5)),.i 0,.i 0,.i 0,.sl 1 [],.sl 1 [],.s (S []),.s (S []),nlD]) (mO _ _ _ _ _ _ _ _ _ _ _ _ _ _ _ _ _ _ _ _ _ _ _ _ _ _ _ _ ⟨eC,v11,decide_eq_true c,eC,y6,iU,hres,y1,y2,y3,y4,y5,hrow,x5,hk,x1,nV ha.1 ha.2 (by decide),x2,x3,x4⟩) (.cons (.refl _) (.cons (.refl _) (.cons (.refl _) (.cons (.refl _) (.cons (.refl _) (.cons (.refl _) (.cons (.refl _) (.cons (.refl _) (.cons (.refl _) (.cons (.refl _) (.cons (.refl _) (.cons (.refl _) (.cons (.refl _) (.cons (.refl _) (.cons (.refl _) (.cons (.nil 1) (.nil)))))))))))))))))
  ·refine ⟨⟨id,1 + a,r,t,K,[a',b'],some s,[],[],[]⟩,⟨hid,cA (by show 0 <= 1 + a; omega) (by show 1 + a < _; omega),cA hr.1 (by show r < _; omega),cA ht.1 (by show t < _; omega),hK,(by show (2 : Nat) <= 8; omega),cells,hs,zl _,zl _,zl _,(fun y hy => by cases hy)⟩,rfl,?_⟩
   exact eB (l := [.i id,.i (1 + a),.i r,.i t,.i K,.sl 7 [TvD a',TvD b'],.i 1,.s (S s),.i 0,.i 0,.i 0,.sl 1 [],.sl 1 [],.s (S []),.s (S []),nlD]) (mT _ _ _ _ _ _ _ _ _ _ _ _ _ _ _ _ _ _ _ _ _ _ _ _ _ _ ⟨decide_eq_false c,eC,y6,iU,hres,y1,y2,y3,y4,y5,hrow,x5,hk,x1,nV ha.1 ha.2 (by decide),x2,x3,x4⟩) (.cons (.refl _) (.cons (.refl _) (.cons (.refl _) (.cons (.refl _) (.cons (.refl _) (.cons (.refl _) (.cons (.refl _) (.cons (.refl _) (.cons (.refl _) (.cons (.refl _) (.cons (.refl _) (.cons (.refl _) (.cons (.refl _) (.cons (.refl _) (.cons (.refl _) (.cons (.nil 1) (.nil)))))))))))))))))
 ·refine ⟨⟨id,1 + a,r,t,K,[a',b'],some (vT l q5),[],[],[]⟩,⟨hid,cA (by show 0 <= 1 + a; omega) (by show 1 + a < _; omega),cA hr.1 (by show r < _; omega),cA ht.1 (by show t < _; omega),hK,(by show (2 : Nat) <= 8; omega),cells,vr,zl _,zl _,zl _,(fun y hy => by cases hy)⟩,rfl,?_⟩
  exact eB (l := [.i id,.i (1 + a),.i r,.i t,.i K,.sl 7 [TvD a',TvD b'],.i 1,.s (S (vT l q5)),.i 0,.i 0,.i 0,.sl 1 [],.sl 1 [],.s (S []),.s (S []),nlD]) (mN16 _ _ _ _ _ _ _ _ _ _ _ _ _ _ _ _ _ _ _ _ _ _ _ _ _ _ _ ⟨eC,v11,eC,y6,iU,hres,y1,y2,y3,y4,y5,hrow,x5,hk,x1,nV ha.1 ha.2 (by decide),x2,x3,x4⟩) (.cons (.refl _) (.cons (.refl _) (.cons (.refl _) (.cons (.refl _) (.cons (.refl _) (.cons (.refl _) (.cons (.refl _) (.cons (.refl _) (.cons (.refl _) (.cons (.refl _) (.cons (.refl _) (.cons (.refl _) (.cons (.refl _) (.cons (.refl _) (.cons (.refl _) (.cons (.nil 1) (.nil)))))))))))))))))
 ·refine ⟨⟨id,1 + a,r,t,K,[a',b'],some (vT l q5),[],[],[]⟩,⟨hid,cA (by show 0 <= 1 + a; omega) (by show 1 + a < _; omega),cA hr.1 (by show r < _; omega),cA ht.1 (by show t < _; omega),hK,(by show (2 : Nat) <= 8; omega),cells,vr,zl _,zl _,zl _,(fun y hy => by cases hy)⟩,rfl,?_⟩
  exact eB (l := [.i id,.i (1 + a),.i r,.i t,.i K,.sl 7 [TvD a',TvD b'],.i 1,.s (S (vT l q5)),.i 0,.i 0,.i 0,.sl 1 [],.sl 1 [],.s (S []),.s (S []),nlD]) (mN18 _ _ _ _ _ _ _ _ _ _ _ _ _ _ _ _ _ _ _ _ _ _ _ _ _ _ _ ⟨eC,v11,eC,y6,iU,hres,y1,y2,y3,y4,y5,hrow,x5,hk,x1,nV ha.1 ha.2 (by decide),x2,x3,x4⟩) (.cons (.refl _) (.cons (.refl _) (.cons (.refl _) (.cons (.refl _) (.cons (.refl _) (.cons (.refl _) (.cons (.refl _) (.cons (.refl _) (.cons (.refl _) (.cons (.refl _) (.cons (.refl _) (.cons (.refl _) (.cons (.refl _) (.cons (.refl _) (.cons (.refl _) (.cons (.nil 1) (.nil)))))))))))))))))
theorem made2 (l : List Int) (id a r t n q1 q2 q3 q4 q5 : Int) (hid : nOk id) (ha : 0 <= a /\ a < 3) (hr : 0 <= r /\ r < 5) (ht : 0 <= t /\ t < 9) (x1 : Nx g l 0 3 a q1) (x2 : Nx g l q1 5 r q2) (x3 : Nx g l q2 9 t q3) (x4 : Nx g l q3 5 2 q4) (x5 : Nx g l q4 3000 n q5) (h5 : NumOk l q5) (p : List Int) (hp : p ∈ progs) (hk : V.Spec Tryz.prog (Gl g) 86 [.agg g0C,.c (cI n)] [] (.c (cM 1 (intsD p))) []) : aA6 g l id := by
 have n6 := h5.next 96;have n7 := n6.next 96;have n8 := n7.next 96;have n9 := n8.next 96;have n10 := n9.next 96;have n11 := n10.next 8;obtain ⟨a',b',ca,cb,hrow⟩ := aMS (g := g) [nxV l q5 96,nxV l (nxK l q5 96) 96,nxV l (nxK l (nxK l q5 96) 96) 96,nxV l (nxK l (nxK l (nxK l q5 96) 96) 96) 96,nxV l (nxK l (nxK l (nxK l (nxK l q5 96) 96) 96) 96) 96] ⟨Int.le_refl _,by simp,by simp⟩;have y1 := cR (g := g) l _ 96 h5 (by decide);have y2 := cR (g := g) l _ 96 n6 (by decide);have y3 := cR (g := g) l _ 96 n7 (by decide);have y4 := cR (g := g) l _ 96 n8 (by decide);have y5 := cR (g := g) l _ 96 n9 (by decide);have y6 := cR (g := g) l _ 8 n10 (by decide);have v11 := val_ok (g := g) l _ n11;have vr := u6 l (k11 l q5);have cells : ∀ v,v ∈ [a',b'] -> bU v := by
  intro v hv;simp only [mc,List.not_mem_nil,or_false] at hv;rcases hv with rfl | rfl
  ·exact ca.ok
  ·exact cb.ok
 rcases vH (g := g) a' b' ca cb p hp with ⟨s,hs,hres⟩ | hres | hres
 ·by_cases c : nxV l (k10 l q5) 8 = 7
  ·obtain ⟨x,hxl,hx⟩ := mQ (g := g) _ vr
   have u1 := cR (g := g) l _ 4 (oT n11) (by decide);by_cases cu : nxV l (txM l (k11 l q5)).2 4 = 0
   ·refine ⟨⟨id,1 + a,r,t,3,[a',b'],none,[105,115],x,[]⟩,⟨hid,cA (by show 0 <= 1 + a; omega) (by show 1 + a < _; omega),cA hr.1 (by show r < _; omega),cA ht.1 (by show t < _; omega),cA (n := 3) (by decide) (by decide),(by show (2 : Nat) <= 8; omega),cells,fK,(by show (2 : Nat) <= 500; omega),hxl,zl _,(fun y hy => by cases hy)⟩,rfl,?_⟩
    exact eB (l := [.i id,.i (1 + a),.i r,.i t,.i 3,.sl 7 [TvD a',TvD b'],.i 0,.s (S []),.i 0,.i 0,.i 0,nlD,nlD,.s (S [105,115]),.s (S x),nlD]) (mk2O0 _ _ _ _ _ _ _ _ _ _ _ _ _ _ _ _ _ _ _ _ _ _ _ _ _ _ _ _ _ _ _ ⟨decide_eq_true cu,u1,hx,eC,v11,decide_eq_true c,eC,y6,iU,hres,y1,y2,y3,y4,y5,hrow,x5,hk,x1,nV ha.1 ha.2 (by decide),x2,x3,x4⟩) (.cons (.refl _) (.cons (.refl _) (.cons (.refl _) (.cons (.refl _) (.cons (.refl _) (.cons (.refl _) (.cons (.refl _) (.cons (.refl _) (.cons (.refl _) (.cons (.refl _) (.cons (.refl _) (.cons (.nil 1) (.cons (.nil 1) (.cons (.refl _) (.cons (.refl _) (.cons (.nil 1) (.nil)))))))))))))))))
   ·have bs := dK l (nxK l (txM l (k11 l q5)).2 4) (n := 5) (by decide)
    obtain ⟨sh2,hm2,he2⟩ := pK shapes _ bs.1 bs.2;have u2 := cR (g := g) l _ 5 (NumOk.next (oT n11) 4) (by decide);refine ⟨⟨id,1 + a,r,t,3,[a',b'],none,[115,104,97,112,101],sh2,[]⟩,⟨hid,cA (by show 0 <= 1 + a; omega) (by show 1 + a < _; omega),cA hr.1 (by show r < _; omega),cA ht.1 (by show t < _; omega),cA (n := 3) (by decide) (by decide),(by show (2 : Nat) <= 8; omega),cells,fK,(by show (5 : Nat) <= 500; omega),i6 sh2 hm2,zl _,(fun y hy => by cases hy)⟩,rfl,?_⟩;exact eB (l := [.i id,.i (1 + a),.i r,.i t,.i 3,.sl 7 [TvD a',TvD b'],.i 0,.s (S []),.i 0,.i 0,.i 0,nlD,nlD,.s (S [115,104,97,112,101]),.s (S sh2),nlD]) (mk2O1 _ _ _ _ _ _ _ _ _ _ _ _ _ _ _ _ _ _ _ _ _ _ _ _ _ _ _ _ _ _ _ _ _ _ ⟨u2,⟨bs.1,he2⟩,decide_eq_false cu,u1,hx,eC,v11,decide_eq_true c,eC,y6,iU,hres,y1,y2,y3,y4,y5,hrow,x5,hk,x1,nV ha.1 ha.2 (by decide),x2,x3,x4⟩) (.cons (.refl _) (.cons (.refl _) (.cons (.refl _) (.cons (.refl _) (.cons (.refl _) (.cons (.refl _) (.cons (.refl _) (.cons (.refl _) (.cons (.refl _) (.cons (.refl _) (.cons (.refl _) (.cons (.nil 1) (.cons (.nil 1) (.cons (.refl _) (.cons (.refl _) (.cons (.nil 1) (.nil)))))))))))))))))
  ·obtain ⟨x,hxl,hx⟩ := mQ (g := g) s hs
   have u1 := cR (g := g) l _ 4 n11 (by decide);by_cases cu : nxV l (k11 l q5) 4 = 0
   ·refine ⟨⟨id,1 + a,r,t,3,[a',b'],none,[105,115],x,[]⟩,⟨hid,cA (by show 0 <= 1 + a; omega) (by show 1 + a < _; omega),cA hr.1 (by show r < _; omega),cA ht.1 (by show t < _; omega),cA (n := 3) (by decide) (by decide),(by show (2 : Nat) <= 8; omega),cells,fK,(by show (2 : Nat) <= 500; omega),hxl,zl _,(fun y hy => by cases hy)⟩,rfl,?_⟩
    exact eB (l := [.i id,.i (1 + a),.i r,.i t,.i 3,.sl 7 [TvD a',TvD b'],.i 0,.s (S []),.i 0,.i 0,.i 0,nlD,nlD,.s (S [105,115]),.s (S x),nlD]) (mk2T0 _ _ _ _ _ _ _ _ _ _ _ _ _ _ _ _ _ _ _ _ _ _ _ _ _ _ _ _ _ ⟨decide_eq_true cu,u1,hx,decide_eq_false c,eC,y6,iU,hres,y1,y2,y3,y4,y5,hrow,x5,hk,x1,nV ha.1 ha.2 (by decide),x2,x3,x4⟩) (.cons (.refl _) (.cons (.refl _) (.cons (.refl _) (.cons (.refl _) (.cons (.refl _) (.cons (.refl _) (.cons (.refl _) (.cons (.refl _) (.cons (.refl _) (.cons (.refl _) (.cons (.refl _) (.cons (.nil 1) (.cons (.nil 1) (.cons (.refl _) (.cons (.refl _) (.cons (.nil 1) (.nil)))))))))))))))))
   ·have bs := dK l (nxK l (k11 l q5) 4) (n := 5) (by decide)
    obtain ⟨sh2,hm2,he2⟩ := pK shapes _ bs.1 bs.2;have u2 := cR (g := g) l _ 5 (NumOk.next n11 4) (by decide);refine ⟨⟨id,1 + a,r,t,3,[a',b'],none,[115,104,97,112,101],sh2,[]⟩,⟨hid,cA (by show 0 <= 1 + a; omega) (by show 1 + a < _; omega),cA hr.1 (by show r < _; omega),cA ht.1 (by show t < _; omega),cA (n := 3) (by decide) (by decide),(by show (2 : Nat) <= 8; omega),cells,fK,(by show (5 : Nat) <= 500; omega),i6 sh2 hm2,zl _,(fun y hy => by cases hy)⟩,rfl,?_⟩;exact eB (l := [.i id,.i (1 + a),.i r,.i t,.i 3,.sl 7 [TvD a',TvD b'],.i 0,.s (S []),.i 0,.i 0,.i 0,nlD,nlD,.s (S [115,104,97,112,101]),.s (S sh2),nlD]) (mk2T1 _ _ _ _ _ _ _ _ _ _ _ _ _ _ _ _ _ _ _ _ _ _ _ _ _ _ _ _ _ _ _ _ ⟨u2,⟨bs.1,he2⟩,decide_eq_false cu,u1,hx,decide_eq_false c,eC,y6,iU,hres,y1,y2,y3,y4,y5,hrow,x5,hk,x1,nV ha.1 ha.2 (by decide),x2,x3,x4⟩) (.cons (.refl _) (.cons (.refl _) (.cons (.refl _) (.cons (.refl _) (.cons (.refl _) (.cons (.refl _) (.cons (.refl _) (.cons (.refl _) (.cons (.refl _) (.cons (.refl _) (.cons (.refl _) (.cons (.nil 1) (.cons (.nil 1) (.cons (.refl _) (.cons (.refl _) (.cons (.nil 1) (.nil)))))))))))))))))
 ·obtain ⟨x,hxl,hx⟩ := mQ (g := g) _ vr
  have u1 := cR (g := g) l _ 4 (oT n11) (by decide);by_cases cu : nxV l (txM l (k11 l q5)).2 4 = 0
  ·refine ⟨⟨id,1 + a,r,t,3,[a',b'],none,[105,115],x,[]⟩,⟨hid,cA (by show 0 <= 1 + a; omega) (by show 1 + a < _; omega),cA hr.1 (by show r < _; omega),cA ht.1 (by show t < _; omega),cA (n := 3) (by decide) (by decide),(by show (2 : Nat) <= 8; omega),cells,fK,(by show (2 : Nat) <= 500; omega),hxl,zl _,(fun y hy => by cases hy)⟩,rfl,?_⟩
   exact eB (l := [.i id,.i (1 + a),.i r,.i t,.i 3,.sl 7 [TvD a',TvD b'],.i 0,.s (S []),.i 0,.i 0,.i 0,nlD,nlD,.s (S [105,115]),.s (S x),nlD]) (mk2N160 _ _ _ _ _ _ _ _ _ _ _ _ _ _ _ _ _ _ _ _ _ _ _ _ _ _ _ _ _ _ ⟨decide_eq_true cu,u1,hx,eC,v11,eC,y6,iU,hres,y1,y2,y3,y4,y5,hrow,x5,hk,x1,nV ha.1 ha.2 (by decide),x2,x3,x4⟩) (.cons (.refl _) (.cons (.refl _) (.cons (.refl _) (.cons (.refl _) (.cons (.refl _) (.cons (.refl _) (.cons (.refl _) (.cons (.refl _) (.cons (.refl _) (.cons (.refl _) (.cons (.refl _) (.cons (.nil 1) (.cons (.nil 1) (.cons (.refl _) (.cons (.refl _) (.cons (.nil 1) (.nil)))))))))))))))))
  ·have bs := dK l (nxK l (txM l (k11 l q5)).2 4) (n := 5) (by decide)
   obtain ⟨sh2,hm2,he2⟩ := pK shapes _ bs.1 bs.2;have u2 := cR (g := g) l _ 5 (NumOk.next (oT n11) 4) (by decide);refine ⟨⟨id,1 + a,r,t,3,[a',b'],none,[115,104,97,112,101],sh2,[]⟩,⟨hid,cA (by show 0 <= 1 + a; omega) (by show 1 + a < _; omega),cA hr.1 (by show r < _; omega),cA ht.1 (by show t < _; omega),cA (n := 3) (by decide) (by decide),(by show (2 : Nat) <= 8; omega),cells,fK,(by show (5 : Nat) <= 500; omega),i6 sh2 hm2,zl _,(fun y hy => by cases hy)⟩,rfl,?_⟩;exact eB (l := [.i id,.i (1 + a),.i r,.i t,.i 3,.sl 7 [TvD a',TvD b'],.i 0,.s (S []),.i 0,.i 0,.i 0,nlD,nlD,.s (S [115,104,97,112,101]),.s (S sh2),nlD]) (mk2N161 _ _ _ _ _ _ _ _ _ _ _ _ _ _ _ _ _ _ _ _ _ _ _ _ _ _ _ _ _ _ _ _ _ ⟨u2,⟨bs.1,he2⟩,decide_eq_false cu,u1,hx,eC,v11,eC,y6,iU,hres,y1,y2,y3,y4,y5,hrow,x5,hk,x1,nV ha.1 ha.2 (by decide),x2,x3,x4⟩) (.cons (.refl _) (.cons (.refl _) (.cons (.refl _) (.cons (.refl _) (.cons (.refl _) (.cons (.refl _) (.cons (.refl _) (.cons (.refl _) (.cons (.refl _) (.cons (.refl _) (.cons (.refl _) (.cons (.nil 1) (.cons (.nil 1) (.cons (.refl _) (.cons (.refl _) (.cons (.nil 1) (.nil)))))))))))))))))
 ·obtain ⟨x,hxl,hx⟩ := mQ (g := g) _ vr
  have u1 := cR (g := g) l _ 4 (oT n11) (by decide);by_cases cu : nxV l (txM l (k11 l q5)).2 4 = 0
  ·refine ⟨⟨id,1 + a,r,t,3,[a',b'],none,[105,115],x,[]⟩,⟨hid,cA (by show 0 <= 1 + a; omega) (by show 1 + a < _; omega),cA hr.1 (by show r < _; omega),cA ht.1 (by show t < _; omega),cA (n := 3) (by decide) (by decide),(by show (2 : Nat) <= 8; omega),cells,fK,(by show (2 : Nat) <= 500; omega),hxl,zl _,(fun y hy => by cases hy)⟩,rfl,?_⟩
   exact eB (l := [.i id,.i (1 + a),.i r,.i t,.i 3,.sl 7 [TvD a',TvD b'],.i 0,.s (S []),.i 0,.i 0,.i 0,nlD,nlD,.s (S [105,115]),.s (S x),nlD]) (mk2N180 _ _ _ _ _ _ _ _ _ _ _ _ _ _ _ _ _ _ _ _ _ _ _ _ _ _ _ _ _ _ ⟨decide_eq_true cu,u1,hx,eC,v11,eC,y6,iU,hres,y1,y2,y3,y4,y5,hrow,x5,hk,x1,nV ha.1 ha.2 (by decide),x2,x3,x4⟩) (.cons (.refl _) (.cons (.refl _) (.cons (.refl _) (.cons (.refl _) (.cons (.refl _) (.cons (.refl _) (.cons (.refl _) (.cons (.refl _) (.cons (.refl _) (.cons (.refl _) (.cons (.refl _) (.cons (.nil 1) (.cons (.nil 1) (.cons (.refl _) (.cons (.refl _) (.cons (.nil 1) (.nil)))))))))))))))))
  ·have bs := dK l (nxK l (txM l (k11 l q5)).2 4) (n := 5) (by decide)
   obtain ⟨sh2,hm2,he2⟩ := pK shapes _ bs.1 bs.2;have u2 := cR (g := g) l _ 5 (NumOk.next (oT n11) 4) (by decide);refine ⟨⟨id,1 + a,r,t,3,[a',b'],none,[115,104,97,112,101],sh2,[]⟩,⟨hid,cA (by show 0 <= 1 + a; omega) (by show 1 + a < _; omega),cA hr.1 (by show r < _; omega),cA ht.1 (by show t < _; omega),cA (n := 3) (by decide) (by decide),(by show (2 : Nat) <= 8; omega),cells,fK,(by show (5 : Nat) <= 500; omega),i6 sh2 hm2,zl _,(fun y hy => by cases hy)⟩,rfl,?_⟩;exact eB (l := [.i id,.i (1 + a),.i r,.i t,.i 3,.sl 7 [TvD a',TvD b'],.i 0,.s (S []),.i 0,.i 0,.i 0,nlD,nlD,.s (S [115,104,97,112,101]),.s (S sh2),nlD]) (mk2N181 _ _ _ _ _ _ _ _ _ _ _ _ _ _ _ _ _ _ _ _ _ _ _ _ _ _ _ _ _ _ _ _ _ ⟨u2,⟨bs.1,he2⟩,decide_eq_false cu,u1,hx,eC,v11,eC,y6,iU,hres,y1,y2,y3,y4,y5,hrow,x5,hk,x1,nV ha.1 ha.2 (by decide),x2,x3,x4⟩) (.cons (.refl _) (.cons (.refl _) (.cons (.refl _) (.cons (.refl _) (.cons (.refl _) (.cons (.refl _) (.cons (.refl _) (.cons (.refl _) (.cons (.refl _) (.cons (.refl _) (.cons (.refl _) (.cons (.nil 1) (.cons (.nil 1) (.cons (.refl _) (.cons (.refl _) (.cons (.nil 1) (.nil)))))))))))))))))
theorem made_ok (l : List Int) (h : NumOk l 0) (id : Int) (hid : nOk id) : aA6 g l id := by
 have n1 := h.next 3;have n2 := n1.next 5;have n3 := n2.next 9;have n4 := n3.next 5;have n5 := n4.next 3000;have ba := dK l 0 (n := 3) (by decide);have br := dK l (nxK l 0 3) (n := 5) (by decide);have bt := dK l (nxK l (nxK l 0 3) 5) (n := 9) (by decide);have bk := dK l (nxK l (nxK l (nxK l 0 3) 5) 9) (n := 5) (by decide);have x1 := cR (g := g) l 0 3 h (by decide);have x2 := cR (g := g) l _ 5 n1 (by decide);have x3 := cR (g := g) l _ 9 n2 (by decide);have x4 := cR (g := g) l _ 5 n3 (by decide);have x5 := cR (g := g) l _ 3000 n4 (by decide);obtain ⟨p,hp,hk⟩ := pick_ok (g := g) (nxV l (nxK l (nxK l (nxK l (nxK l 0 3) 5) 9) 5) 3000);have hc : nxV l (nxK l (nxK l (nxK l 0 3) 5) 9) 5 = 0 \/ nxV l (nxK l (nxK l (nxK l 0 3) 5) 9) 5 = 1 \/ nxV l (nxK l (nxK l (nxK l 0 3) 5) 9) 5 = 2 \/ nxV l (nxK l (nxK l (nxK l 0 3) 5) 9) 5 = 3 \/ nxV l (nxK l (nxK l (nxK l 0 3) 5) 9) 5 = 4 := by omega
 rcases hc with e | e | e | e | e <;> rw [e] at x4
 ·exact aN1 (cA (n := 1) (by decide) (by decide)) mk0T mk0O mk0N16 mk0N18 l id _ _ _ _ _ _ _ _ _ hid ba br bt x1 x2 x3 x4 x5 n5 p hp hk
 ·exact aN1 (cA (n := 1) (by decide) (by decide)) mk1T mk1O mk1N16 mk1N18 l id _ _ _ _ _ _ _ _ _ hid ba br bt x1 x2 x3 x4 x5 n5 p hp hk
 ·exact made2 l id _ _ _ _ _ _ _ _ _ hid ba br bt x1 x2 x3 x4 x5 n5 p hp hk
 ·exact aN1 (cA (n := 2) (by decide) (by decide)) mk3T mk3O mk3N16 mk3N18 l id _ _ _ _ _ _ _ _ _ hid ba br bt x1 x2 x3 x4 x5 n5 p hp hk
 ·exact made4 l id _ _ _ _ _ _ _ _ _ hid ba br bt x1 x2 x3 x4 x5 n5 p hp hk
theorem mL (what who n author : Int) (l : List Int) (h : NumOk l 0) (hau : nOk author) : ∃ it : It,ItOk it /\ it.id = 1 + mdV n 4 /\ it.author = author /\ V.Spec Tryz.prog (Gl g) 21 [.agg [cI what,cI who,cI n,cM 1 (intsD l)],.c (cI author)] [] (.agg ((ItD it).map .d)) [] := by
 have hb := dA n (m := 4) (by decide);obtain ⟨it,hit,hid,hs⟩ := made_ok (g := g) l h (1 + mdV n 4) (cA (by omega) (by omega));refine ⟨{ it with author := author },⟨hit.id,hau,hit.rank,hit.time,hit.kind,hit.len,hit.cells,hit.output,hit.prop,hit.param,hit.plen,hit.prog⟩,hid,rfl,?_⟩;exact actX what who n author (mdV n 4) it.id it.author it.rank it.time it.kind (tvK it.output) l (aS it.input) (intsD it.program) (S (tvS it.output)) (S it.prop) (S it.param) ⟨dI n 4 (by decide) (by decide),nV hb.1 hb.2 (by decide),hs,madeX⟩
end
section
variable {g : Gv}
def eM (f : FuncId) (tell : Nat -> Option SV) : Ent Tryz.prog (Gl g) where
 f := f
 ask := fun k ins refs => match tell k with
  | some out => some (out,refs,[V.Spec Tryz.prog (Gl g) f ins refs out refs])
  | none => none
 ok := by
  intro k ins refs post out cs h hc;split at h;cases h; exact hc;cases h
def itC (it : It) : SV := .agg ((ItD it).map .d)
def e1 (v : Int) : Nat -> Option SV := fun _ => some (.c (cI v))
end
section
variable {g : Gv}
def mpO (es : RS) : Ob := .box ⟨.mpb es,none⟩ []
def rpO (a : Int) (m : Nat) : Ob := .box 73 [cI a,cI 3,.mp m]
def rR (a : Int) (e : RS) : aZ := [(0,rpO a 1),(1,mpO e)]
def wA : Ob := .arr 0 ⟨35,[(0,.bx 2 0),(1,.bx 4 0),(2,.bx 6 0)]⟩ 1 [[.v undef],[.v undef],[.v undef]]
def wO (e1 e2 e3 : RS) (ms : LD) : aZ := [(0,.box 34 [.ar 1 0,.ar 8 0]),(1,wA),(2,rpO 1 3),(3,mpO e1),(4,rpO 2 5),(5,mpO e2),(6,rpO 3 7),(7,mpO e3),(8,.arr 0 43 3 ms)]
def ij9 : List (Nat × Nat) := [(0,0),(1,1),(2,2),(3,3),(4,4),(5,5),(6,6),(7,7),(8,8)]
def eQ (f : FuncId) (a : Int) (out : SV) (e : RS) : Ent Tryz.prog (Gl g) := eT f fun _ _ => some (out,rR a e)
def SpR (g : Gv) (f : FuncId) (a : Int) (ins : List SV) (e : RS) (out : SV) (e' : RS) : Prop := V.Spec Tryz.prog (Gl g) f (.c (.bx 0 0) :: ins) (rR a e) out (rR a e')
def acC (what who n : Int) (l : List Int) : SV := .agg [cI what,cI who,cI n,cM 1 (intsD l)]
def DoS (g : Gv) (what who n : Int) (l : List Int) (e1 e2 e3 : RS) (ms : LD) (f1 f2 f3 : RS) (ns : LD) : Prop := V.Spec Tryz.prog (Gl g) 12 [.c (.bx 0 0),acC what who n l] (wO e1 e2 e3 ms) (.tup []) (wO f1 f2 f3 ns)
def SpM (g : Gv) (n m v : Int) : Prop := V.Spec Tryz.prog (Gl g) 18 [.c (cI n),.c (cI m)] [] (.c (cI v)) []
theorem sG {g : Gv} (orc : Nat -> Option Bool) (lit : Nat -> Option Value) (hnt : Nat -> Option (List D)) (ij : List (Nat × Nat)) {T : List (Ent Tryz.prog (Gl g))} {f : FuncId} {ins : List SV} {refs : aZ} {out : SV} {post : aZ} {cs : List Prop} (h : topG T [] [] orc lit hnt 100000 60 f ins refs ij = some (out,post,cs)) (hc : conj cs) : V.Spec Tryz.prog (Gl g) f ins refs out post := specXG orc lit hnt ij hmx h hc
end
section
variable {g : Gv}
theorem doG0 (what who n : Int) (l : List Int) (e1 e2 e3 : RS) (ms : LD) (w c : Int) (it : It) (f : RS) (h : conj [SX g 21 [acC what who n l,.c (cI 1)] (itC it),SpR g 22 1 [itC it] e1 (.c (cI c)) f,decide (w < 2) = true,SpM g what 8 w,SpM g who 3 0]) : DoS g what who n l e1 e2 e3 ms f e2 e3 ms :=
 sG (tlO [(112,true)]) nFQ nFQ ij9 (T := [eM 18 (tlS [(103,.c (cI 0)),(107,.c (cI w))]),a7 21 (itC it),eQ 22 1 (.c (cI c)) f]) (by kernel_rfl) h
theorem doW0 (what who n : Int) (l : List Int) (e1 e2 e3 : RS) (ms : LD) (v c : Int) (f : RS) (h : conj [SpM g n 4 v,Go.Eng.inR (1 + v),SpR g 23 1 [.c (cI (1 + v))] e1 (.c (cI c)) f,SpM g what 8 2,SpM g who 3 0]) : DoS g what who n l e1 e2 e3 ms f e2 e3 ms :=
 sG (tlO [(125,true)]) nFQ nFQ ij9 (T := [eM 18 (tlS [(103,.c (cI 0)),(107,.c (cI 2)),(124,.c (cI v))]),eQ 23 1 (.c (cI c)) f]) (by kernel_rfl) h
theorem doG1 (what who n : Int) (l : List Int) (e1 e2 e3 : RS) (ms : LD) (w c : Int) (it : It) (f : RS) (h : conj [SX g 21 [acC what who n l,.c (cI 2)] (itC it),SpR g 22 2 [itC it] e2 (.c (cI c)) f,decide (w < 2) = true,SpM g what 8 w,SpM g who 3 1]) : DoS g what who n l e1 e2 e3 ms e1 f e3 ms :=
 sG (tlO [(112,true)]) nFQ nFQ ij9 (T := [eM 18 (tlS [(103,.c (cI 1)),(107,.c (cI w))]),a7 21 (itC it),eQ 22 2 (.c (cI c)) f]) (by kernel_rfl) h
theorem doW1 (what who n : Int) (l : List Int) (e1 e2 e3 : RS) (ms : LD) (v c : Int) (f : RS) (h : conj [SpM g n 4 v,Go.Eng.inR (1 + v),SpR g 23 2 [.c (cI (1 + v))] e2 (.c (cI c)) f,SpM g what 8 2,SpM g who 3 1]) : DoS g what who n l e1 e2 e3 ms e1 f e3 ms :=
 sG (tlO [(125,true)]) nFQ nFQ ij9 (T := [eM 18 (tlS [(103,.c (cI 1)),(107,.c (cI 2)),(124,.c (cI v))]),eQ 23 2 (.c (cI c)) f]) (by kernel_rfl) h
theorem doG2 (what who n : Int) (l : List Int) (e1 e2 e3 : RS) (ms : LD) (w c : Int) (it : It) (f : RS) (h : conj [SX g 21 [acC what who n l,.c (cI 3)] (itC it),SpR g 22 3 [itC it] e3 (.c (cI c)) f,decide (w < 2) = true,SpM g what 8 w,SpM g who 3 2]) : DoS g what who n l e1 e2 e3 ms e1 e2 f ms :=
 sG (tlO [(112,true)]) nFQ nFQ ij9 (T := [eM 18 (tlS [(103,.c (cI 2)),(107,.c (cI w))]),a7 21 (itC it),eQ 22 3 (.c (cI c)) f]) (by kernel_rfl) h
theorem doW2 (what who n : Int) (l : List Int) (e1 e2 e3 : RS) (ms : LD) (v c : Int) (f : RS) (h : conj [SpM g n 4 v,Go.Eng.inR (1 + v),SpR g 23 3 [.c (cI (1 + v))] e3 (.c (cI c)) f,SpM g what 8 2,SpM g who 3 2]) : DoS g what who n l e1 e2 e3 ms e1 e2 f ms :=
 sG (tlO [(125,true)]) nFQ nFQ ij9 (T := [eM 18 (tlS [(103,.c (cI 2)),(107,.c (cI 2)),(124,.c (cI v))]),eQ 23 3 (.c (cI c)) f]) (by kernel_rfl) h
theorem lmodX (n m : Int) (h : conj [m ≠ 0,Go.Eng.inR (n.tmod m + m),m ≠ 0]) : SX g 18 [.c (cI n),.c (cI m)] (.c (cI ((n.tmod m + m).tmod m))) :=
 sX (tlO [(103,true),(105,true),(107,true)]) nFQ nFQ (T := []) (by kernel_rfl) h
def tlG : List (Nat × SV × aZ) -> Nat -> Option (SV × aZ)
 | [],_ => none
 | x :: r,k => bif Nat.beq x.1 k then some x.2 else tlG r k
theorem exchX (e1 e2 e3 f2 f3 g1 x : RS) (t1 t2 t3 : ByteArray) (r1 r2 r3 r4 r5 r6 ms : LD) (h : conj [SpR g 19 2 [.agg [cI 3,cI 2,cS t3]] x (.c (cM 3 [])) x,SpR g 19 1 [.agg [cI 3,cI 1,cS t3]] x (.c (cM 3 [])) x,SpR g 25 3 [] x (.c (cM 3 [[.i 3,.i 1,.s t3],[.i 3,.i 2,.s t3]])) x,SpR g 19 3 [.agg [cI 2,cI 3,cS t3]] x (.c (cM 3 [])) x,SpR g 19 1 [.agg [cI 2,cI 1,cS t3]] x (.c (cM 3 [])) x,SpR g 25 2 [] x (.c (cM 3 [[.i 2,.i 1,.s t3],[.i 2,.i 3,.s t3]])) x,SpR g 19 3 [.agg [cI 1,cI 3,cS t3]] x (.c (cM 3 [])) x,SpR g 19 2 [.agg [cI 1,cI 2,cS t3]] x (.c (cM 3 [])) x,SpR g 25 1 [] x (.c (cM 3 [[.i 1,.i 2,.s t3],[.i 1,.i 3,.s t3]])) x,SpR g 19 2 [.agg [cI 3,cI 2,cS t3]] f2 (.c (cM 3 r6)) x,SpR g 19 1 [.agg [cI 3,cI 1,cS t3]] g1 (.c (cM 3 r5)) x,SpR g 25 3 [] x (.c (cM 3 [[.i 3,.i 1,.s t3],[.i 3,.i 2,.s t3]])) x,SpR g 19 3 [.agg [cI 2,cI 3,cS t2]] f3 (.c (cM 3 r4)) x,SpR g 19 1 [.agg [cI 2,cI 1,cS t2]] e1 (.c (cM 3 r3)) g1,SpR g 25 2 [] f2 (.c (cM 3 [[.i 2,.i 1,.s t2],[.i 2,.i 3,.s t2]])) f2,SpR g 19 3 [.agg [cI 1,cI 3,cS t1]] e3 (.c (cM 3 r2)) f3,SpR g 19 2 [.agg [cI 1,cI 2,cS t1]] e2 (.c (cM 3 r1)) f2,SpR g 25 1 [] e1 (.c (cM 3 [[.i 1,.i 2,.s t1],[.i 1,.i 3,.s t1]])) e1]) : V.Spec Tryz.prog (Gl g) 13 [.c (.bx 0 0)] (wO e1 e2 e3 ms) (.tup []) (wO x x x ms) :=
 sG nFQ nFQ nFQ ij9 (T := [eT 25 fun k _ => tlG [(113,.c (cM 3 [[.i 1,.i 2,.s t1],[.i 1,.i 3,.s t1]]),rR 1 e1),(182,.c (cM 3 [[.i 2,.i 1,.s t2],[.i 2,.i 3,.s t2]]),rR 2 f2),(251,.c (cM 3 [[.i 3,.i 1,.s t3],[.i 3,.i 2,.s t3]]),rR 3 x),(330,.c (cM 3 [[.i 1,.i 2,.s t3],[.i 1,.i 3,.s t3]]),rR 1 x),(399,.c (cM 3 [[.i 2,.i 1,.s t3],[.i 2,.i 3,.s t3]]),rR 2 x),(468,.c (cM 3 [[.i 3,.i 1,.s t3],[.i 3,.i 2,.s t3]]),rR 3 x)] k,eT 19 fun k _ => tlG [(141,.c (cM 3 r1),rR 2 f2),(169,.c (cM 3 r2),rR 3 f3),(210,.c (cM 3 r3),rR 1 g1),(238,.c (cM 3 r4),rR 3 x),(279,.c (cM 3 r5),rR 1 x),(307,.c (cM 3 r6),rR 2 x),(358,.c (cM 3 []),rR 2 x),(386,.c (cM 3 []),rR 3 x),(427,.c (cM 3 []),rR 1 x),(455,.c (cM 3 []),rR 3 x),(496,.c (cM 3 []),rR 1 x),(524,.c (cM 3 []),rR 2 x)] k]) (by kernel_rfl) h
end
section
variable {g : Gv}
def mdL (n m : Int) : Int := (n.tmod m + m).tmod m
theorem pF (n : Int) {m : Int} (h : 0 < m) : 0 <= mdL n m /\ mdL n m < m := by
 unfold mdL;have h1 := Int.tmod_lt_of_pos n h;have h2 : -m < n.tmod m := by
  have := Int.lt_tmod_of_pos n h;omega
 exact ⟨Int.tmod_nonneg _ (by omega),Int.tmod_lt_of_pos _ h⟩
theorem eG (n m : Int) (h : 0 < m) (hm : m <= 1000000) : SpM g n m (mdL n m) := by
 have h1 := Int.tmod_lt_of_pos n h;have h2 : -m < n.tmod m := by
  have := Int.lt_tmod_of_pos n h;omega
 exact lmodX n m ⟨(show m ≠ 0 by omega),(by unfold Go.Eng.inR; omega),(show m ≠ 0 by omega)⟩
theorem dM {n m v : Int} (h : 0 < m) (hm : m <= 1000000) (e : mdL n m = v) : SpM g n m v := e ▸ eG n m h hm
def rpL (a f : Int) (es ms : RS) : List Ms := bif eO es ms then [⟨a,f,jnV es ms⟩] else []
theorem mR (a f : Int) (es ms : RS) (hes : RsOk 3 es) (hms : RsOk 3 ms) (hl : es.length + ms.length <= 4000) (hf1 : 1 <= f) (hf2 : f <= 3) (hfa : ¬ f = a) : SpR g 19 a [y21 f a (S (aE ms))] es (.c (cM 3 (bK (rpL a f es ms)))) (jnV es ms) := by
 unfold rpL;cases h : eO es ms with
 | true => exact u9 a 3 f es ms hes hms hl hf1 hf2 hfa h
 | false => exact aMI [some 3] (vA a 3 f es ms hes hms hl hf1 hf2 hfa h)
theorem aMQ (a f : Int) {x : RS} (h : kSort x) : bK (rpL a f x x) = [] := by unfold rpL; rw [(aHJ h).2]; rfl
theorem aHW {k : Nat} {U : List (List UInt8)} {e1 e2 e3 : RS} {ms : List Ms} (h : WOk k U e1 e2 e3 ms) (hk : k <= 60) (ns : LD) : KOk U (exV e1 e2 e3) /\ V.Spec Tryz.prog (Gl g) 13 [.c (.bx 0 0)] (wO e1 e2 e3 ns) (.tup []) (wO (exV e1 e2 e3) (exV e1 e2 e3) (exV e1 e2 e3) ns) := by
 have hU := h.ul;have k2 := (aFL h.k2 h.k1 (by omega)).1;have k3 := (aFL h.k3 h.k1 (by omega)).1;have g1 := (aFL h.k1 k2 (by omega)).1;have kx : KOk U (exV e1 e2 e3) := (aFL k3 k2 (by omega)).1;obtain ⟨x1,x2⟩ := ex_all h.k1.rs.sort h.k2.rs.sort h.k3.rs.sort;have hle : ∀ {a b : RS},KOk U a -> KOk U b -> a.length + b.length <= 4000 := fun ha hb => by have := ha.len; have := hb.len; omega
 have tk : ∀ {a : Int} {e : RS} {l : LD},KOk U e -> aFJ a (aE e) (tkL a 3) = l -> SpR g 25 a [] e (.c (cM 3 l)) e := fun he hl => hY _ 3 _ _ he.rs (by decide) (by decide) hl;have ta : ∀ {a f : Int} {e m r : RS},KOk U e -> KOk U m -> 1 <= f -> f <= 3 -> ¬ f = a -> jnV e m = r -> SpR g 19 a [y21 f a (S (aE m))] e (.c (cM 3 (bK (rpL a f e m)))) r := fun he hm h1 h2 h3 hr => hr ▸ mR _ _ _ _ he.rs hm.rs (hle he hm) h1 h2 h3;have tx : ∀ {a f : Int},1 <= f -> f <= 3 -> ¬ f = a -> SpR g 19 a [y21 f a (S (aE (exV e1 e2 e3)))] (exV e1 e2 e3) (.c (cM 3 [])) (exV e1 e2 e3) := fun h1 h2 h3 => by
  have := ta kx kx h1 h2 h3 (aHJ kx.rs.sort).1;rwa [aMQ _ _ kx.rs.sort] at this
 refine ⟨kx,exchX e1 e2 e3 (jnV e2 e1) (jnV e3 e1) (jnV e1 (jnV e2 e1)) (exV e1 e2 e3) _ _ _ _ _ _ _ _ _ ns ⟨tx (by decide) (by decide) (by decide),tx (by decide) (by decide) (by decide),tk kx rfl,tx (by decide) (by decide) (by decide),tx (by decide) (by decide) (by decide),tk kx rfl,tx (by decide) (by decide) (by decide),tx (by decide) (by decide) (by decide),tk kx rfl,ta k2 kx (by decide) (by decide) (by decide) x2,ta g1 kx (by decide) (by decide) (by decide) x1,tk kx rfl,ta k3 k2 (by decide) (by decide) (by decide) rfl,ta h.k1 k2 (by decide) (by decide) (by decide) rfl,tk k2 rfl,ta h.k3 h.k1 (by decide) (by decide) (by decide) rfl,ta h.k2 h.k1 (by decide) (by decide) (by decide) rfl,tk h.k1 rfl⟩⟩
end
section
open Go.Eng (inR byteAt u8 dN)
variable {g : Gv}
def u3 : LD := [[.v undef],[.v undef],[.v undef]]
theorem jS {P : Program} {R : Wp P} {fr : Fr} {n : Nat} {root : Code} {Q : Exit -> Act -> World -> Prop} {pos : List Nat} {st : V.St} (h : dV root pos = some .skip) (hk : W R fr n root Q (.exit pos .normal) st) : W R fr n root Q (.code pos) st := by
 intro c hc a w hok;rw [h] at hc;simp only [oIQ] at hc;subst hc;exact R.skip (hk a w hok)
def dwS (s : List Tb) (l : List Wt) (c : Int) (e1 e2 e3 : RS) (ms : LD) : aZ := [(0,.box 78 [.bx 1 0]),(1,.box 121 [cI 4,cM 3 (aK s),.d (.v (.map none)),.ib 128 2,cI c]),(2,.box 130 [.ar 3 0]),(3,.arr 0 124 5 (aL l)),(4,.box 24 [.bx 5 0]),(5,.box 34 [.ar 6 0,.ar 13 0]),(6,.arr 0 ⟨35,[(0,.bx 7 0),(1,.bx 9 0),(2,.bx 11 0)]⟩ 1 (u3)),(7,.box 73 [cI 1,cI 3,.mp 8]),(8,mBQ e1),(9,.box 73 [cI 2,cI 3,.mp 10]),(10,mBQ e2),(11,.box 73 [cI 3,cI 3,.mp 12]),(12,mBQ e3),(13,.arr 0 43 3 (ms))]
def dwZ (s : List Tb) (c : Int) (e1 e2 e3 : RS) (ms : LD) : aZ := [(0,.box 78 [.bx 1 0]),(1,y34 (aK s) c),(2,.box 24 [.bx 3 0]),(3,.box 34 [.ar 4 0,.ar 11 0]),(4,.arr 0 ⟨35,[(0,.bx 5 0),(1,.bx 7 0),(2,.bx 9 0)]⟩ 1 (u3)),(5,.box 73 [cI 1,cI 3,.mp 6]),(6,mBQ e1),(7,.box 73 [cI 2,cI 3,.mp 8]),(8,mBQ e2),(9,.box 73 [cI 3,cI 3,.mp 10]),(10,mBQ e3),(11,.arr 0 43 3 (ms))]
def dE (w : Nat) (n k : Int) : bR := [zX 1 0 0,(2,[],.c (.bx w 0)),zI 9 n,zI 10 k]
theorem clT_nil : SX g 48 [.c (.d nlD)] (.c (.d nlD)) := sX (T := []) (cs := []) nFQ nFQ nFQ (by kernel_rfl) trivial
theorem aH6 (a : Addr) (c : Nat) : SX g 48 [.c (.d (.v (.slice (some a) 0 c)))] (.c (cM 3 [])) := sX (T := []) (cs := []) nFQ nFQ nFQ (by kernel_rfl) trivial
def clS (g : Gv) (l : LD) : Prop := SX g 48 [.c (cM 3 l)] (.c (cM 3 l))
theorem clT_1 (a : Tb) : clS g [TbD a] := sX (T := []) (cs := []) nFQ nFQ nFQ (by kernel_rfl) trivial
theorem clT_2 (a b : Tb) : clS g [TbD a,TbD b] := sX (T := []) (cs := []) nFQ nFQ nFQ (by kernel_rfl) trivial
theorem clT_3 (a b c : Tb) : clS g [TbD a,TbD b,TbD c] := sX (T := []) (cs := []) nFQ nFQ nFQ (by kernel_rfl) trivial
theorem clT_4 (a b c d : Tb) : clS g [TbD a,TbD b,TbD c,TbD d] := sX (T := []) (cs := []) nFQ nFQ nFQ (by kernel_rfl) trivial
theorem clT_5 (a b c d e : Tb) : clS g [TbD a,TbD b,TbD c,TbD d,TbD e] := sX (T := []) (cs := []) nFQ nFQ nFQ (by kernel_rfl) trivial
theorem clT_6 (a b c d e f : Tb) : clS g [TbD a,TbD b,TbD c,TbD d,TbD e,TbD f] := sX (T := []) (cs := []) nFQ nFQ nFQ (by kernel_rfl) trivial
theorem clT_7 (a b c d e f x : Tb) : clS g [TbD a,TbD b,TbD c,TbD d,TbD e,TbD f,TbD x] := sX (T := []) (cs := []) nFQ nFQ nFQ (by kernel_rfl) trivial
theorem clT_8 (a b c d e f x y : Tb) : clS g [TbD a,TbD b,TbD c,TbD d,TbD e,TbD f,TbD x,TbD y] := sX (T := []) (cs := []) nFQ nFQ nFQ (by kernel_rfl) trivial
theorem aK0 : ∀ (s : List Tb),s.length <= 8 -> SpG g 48 [.c (cM 3 (aK s))] [] (.c (cM 3 (aK s))) []
 | [a],_ => clT_1 a
 | [a,b],_ => clT_2 a b
 | [a,b,c],_ => clT_3 a b c
 | [a,b,c,d],_ => clT_4 a b c d
 | [a,b,c,d,e],_ => clT_5 a b c d e
 | [a,b,c,d,e,f],_ => clT_6 a b c d e f
 | [a,b,c,d,e,f,x],_ => clT_7 a b c d e f x
 | [a,b,c,d,e,f,x,y],_ => clT_8 a b c d e f x y
 | _ :: _ :: _ :: _ :: _ :: _ :: _ :: _ :: _ :: _,h => by simp only [lc] at h; omega
 | [],_ => by
  show SX g 48 [.c (cM 3 [])] (.c (cM 3 []));intro fr w pl args hw hG m ha;obtain ⟨v,r,rfl,h2,h3⟩ := ha.uncons;rw [h3.unnil];have h2 : Rd w (Sh pl (lookO [])) (.sl 3 []) v := h2;generalize hes : ([] : LD) = es at h2;cases h2 with
  | nil =>
   refine (clT_nil (g := g) fr w pl [.slice none 0 0] hw hG m (All2.one (Rd.v _ rfl))).mono ?_;rintro e w' ⟨v',pl',rfl,m',hv⟩;have hv : v' = .slice none 0 0 := Rd.exact hv;exact ⟨v',pl',rfl,m',by rw [hv]; exact Rd.nil 3⟩
  | far _ a => exact aH6 a 0 fr w pl _ hw hG m (All2.one (Rd.v _ rfl))
  | sl us hF hb hc hm hs hu hr =>
   subst hes;exact aH6 _ _ fr w pl _ hw hG m (All2.one (Rd.v _ rfl))
def tbO (s : List Tb) (c : Int) : Tb := match s with
 | [] => ⟨false,1,1⟩
 | x :: r => (x :: r).getD (Int.tmod c ((aK (x :: r)).length : Int)).toNat Tb.z
def aX (s : List Tb) (now c : Int) (m : Ms) (l : List Wt) : List Wt := bif (tbO s c).lost then l else eI (now + dlI (tbO s c).delay) c m (cpI (tbO s c).copies).toNat l
def nS (s : List Tb) (l : List Wt) (c : Int) : aZ := [(0,y33 (aK s) c),(1,.box 130 [.ar 2 0]),(2,.arr 0 124 5 (aL l))]
def nZ (s : List Tb) (c : Int) : aZ := [(0,.box 121 [cI 4,cM 3 (aK s),.d (.v (.map none)),.d (.v .nilIface),cI c])]
def nC (s : List Tb) (l : List Wt) (c : Int) : aZ := [(0,y37 (aK s) c),(100,.box 130 [.ar 101 0]),(101,.arr 0 124 5 (aL l))]
def TOk (s : List Tb) : Prop := s.length <= 8 /\ ∀ t,t ∈ s -> 0 <= t.delay /\ t.delay < 20
theorem aLV {x : Tb} {r : List Tb} {c : Int} (hc : 0 <= c) : (0 : Int) <= Int.tmod c ((aK (x :: r)).length : Int) /\ Int.tmod c ((aK (x :: r)).length : Int) < ((x :: r).length : Int) := by
 have e : (aK (x :: r)).length = (x :: r).length := aU _;rw [e];exact ⟨Int.tmod_nonneg _ hc,Int.tmod_lt_of_pos _ (by simp only [lc]; omega)⟩
theorem aLW {x : Tb} {r : List Tb} {c : Int} (hc : 0 <= c) : (0 : Int) <= Int.tmod c ((aK (x :: r)).length : Int) /\ (aK (x :: r))[(Int.tmod c ((aK (x :: r)).length : Int)).toNat]? = some (TbD (tbO (x :: r) c)) := tbs_at (aLV hc).1 (aLV hc).2
theorem xZ {s : List Tb} (h : TOk s) {c : Int} (hc : 0 <= c) : 0 <= (tbO s c).delay /\ (tbO s c).delay < 20 := by
 cases s with
 | nil => exact ⟨by show (0 : Int) <= 1; decide,by show (1 : Int) < 20; decide⟩
 | cons x r =>
  refine h.2 _ (bF ?_);have := aLV (x := x) (r := r) hc;omega
theorem cV (s : List Tb) (c now : Int) (m : Ms) (l : List Wt) (hs : TOk s) (hf : 0 <= m.f /\ m.f < 4) (ht : 0 <= m.t /\ m.t < 4) (hc : 0 <= c /\ c <= 1000000) (hw : 0 <= now /\ now <= 1000000) (hl : l.length <= 900000) : V.Spec Tryz.prog (Gl g) 30 [.c (.bx 0 0),.c (cI now),y21 m.f m.t (S (aE m.m))] (nS s l c) (.tup []) (nS s (aX s now c m l) (c + 1)) := by
 cases s with
 | nil => exact aD4 [] c now m l hf ht hc hw hl rfl
 | cons x r =>
  have hd := xZ hs hc.1;have he := aLW (x := x) (r := r) hc.1;cases hlo : (tbO (x :: r) c).lost with
  | true =>
   rw [show aX (x :: r) now c m l = l from by simp only [aX,hlo,cond_true]];exact aD0 (x :: r) c now (tbO (x :: r) c).copies (tbO (x :: r) c).delay m l hf ht hc hw hd hl (by simp) (by rw [TbD,hlo] at he; exact he)
  | false =>
   rw [show aX (x :: r) now c m l = eI (now + dlI (tbO (x :: r) c).delay) c m (cpI (tbO (x :: r) c).copies).toNat l from by simp only [aX,hlo,cond_false]];exact aD2 (x :: r) c now (tbO (x :: r) c).copies (tbO (x :: r) c).delay m l hf ht hc hw hd hl (by simp) (by rw [TbD,hlo] at he; exact he)
theorem d5 (s : List Tb) (c now : Int) (m : Ms) (hs : TOk s) (hf : 0 <= m.f /\ m.f < 4) (ht : 0 <= m.t /\ m.t < 4) (hc : 0 <= c /\ c <= 1000000) (hw : 0 <= now /\ now <= 1000000) (hlo : (tbO s c).lost = true) : V.Spec Tryz.prog (Gl g) 30 [.c (.bx 0 0),.c (cI now),y21 m.f m.t (S (aE m.m))] (nZ s c) (.tup []) (nZ s (c + 1)) := by
 cases s with
 | nil => cases hlo
 | cons x r =>
  have hd := xZ hs hc.1;have he := aLW (x := x) (r := r) hc.1;exact aD1 (x :: r) c now (tbO (x :: r) c).copies (tbO (x :: r) c).delay m hf ht hc hw hd (by simp) (by rw [TbD,hlo] at he; exact he)
theorem iH (s : List Tb) (c now : Int) (m : Ms) (hs : TOk s) (hf : 0 <= m.f /\ m.f < 4) (ht : 0 <= m.t /\ m.t < 4) (hc : 0 <= c /\ c <= 1000000) (hw : 0 <= now /\ now <= 1000000) (hlo : (tbO s c).lost = false) : V.Spec Tryz.prog (Gl g) 30 [.c (.bx 0 0),.c (cI now),y21 m.f m.t (S (aE m.m))] (nZ s c) (.tup []) (nC s (aX s now c m []) (c + 1)) := by
 cases s with
 | nil => exact aD5 [] c now m hf ht hc hw rfl
 | cons x r =>
  have hd := xZ hs hc.1;have he := aLW (x := x) (r := r) hc.1;rw [show aX (x :: r) now c m [] = eI (now + dlI (tbO (x :: r) c).delay) c m (cpI (tbO (x :: r) c).copies).toNat [] from by simp only [aX,hlo,cond_false]];exact aD3 (x :: r) c now (tbO (x :: r) c).copies (tbO (x :: r) c).delay m hf ht hc hw hd (by simp) (by rw [TbD,hlo] at he; exact he)
def sdP (g : Gv) (now : Int) (m : Ms) (r p : aZ) : Prop := V.Spec Tryz.prog (Gl g) 30 [.c (.bx 0 0),.c (cI now),y21 m.f m.t (S (aE m.m))] r (.tup []) p
def sdT (g : Gv) (a b : Nat) (x y : aZ) : Ent Tryz.prog (Gl g) := eT 30 fun k _ => tlG [(a,.tup [],x),(b,.tup [],y)] k
theorem jW {U : List (List UInt8)} {B : Nat} {s : List Tb} {l : List Wt} {c now : Int} {m : Ms} (hq : QOk B B U l) (hm : MsOk U m) (hs : TOk s) (hc : 0 <= c) (h0 : 0 <= now) (hB : now <= (B : Int)) : QOk (B + 30) (B + 30) U (aX s now c m l) := by
 have hd := dl_bd (xZ hs hc);have hp := aC9 (tbO s c).copies;unfold aX;cases (tbO s c).lost with
 | true => exact hq.up (by omega) (by omega)
 | false =>
  have := q_add (hq.up (T' := B + 30) (by omega) (lr _)) (t := now + dlI (tbO s c).delay) (n := c) (by omega) hm (cpI (tbO s c).copies).toNat (by omega) (by omega)
  exact this.up (lr _) (by omega)
structure Wd where
 e1 : RS
 e2 : RS
 e3 : RS
 l : List Wt
 c : Int
def rpS (s : List Tb) (a : Int) (e : RS) (w : Wt) (l : List Wt) (c : Int) : List Wt := bif eO e w.m.m then aX s w.t c ⟨a,w.m.f,jnV e w.m.m⟩ l else l
def rpC (e : RS) (w : Wt) (c : Int) : Int := bif eO e w.m.m then c + 1 else c
def mG (s : List Tb) (x : Wd) : Wd := bif x.l.isEmpty then x else
 bif decide ((aD x.l).m.t = 1) then ⟨jnV x.e1 (aD x.l).m.m,x.e2,x.e3,rpS s 1 x.e1 (aD x.l) (bL x.l) x.c,rpC x.e1 (aD x.l) x.c⟩ else
 bif decide ((aD x.l).m.t = 2) then ⟨x.e1,jnV x.e2 (aD x.l).m.m,x.e3,rpS s 2 x.e2 (aD x.l) (bL x.l) x.c,rpC x.e2 (aD x.l) x.c⟩ else
 ⟨x.e1,x.e2,jnV x.e3 (aD x.l).m.m,rpS s 3 x.e3 (aD x.l) (bL x.l) x.c,rpC x.e3 (aD x.l) x.c⟩
def fI (s : List Tb) : Nat -> Wd -> Wd
 | 0,x => x
 | n + 1,x => fI s n (mG s x)
structure DOk (U : List (List UInt8)) (B : Nat) (e1 e2 e3 : RS) (l : List Wt) (c : Int) : Prop where
 k1 : KOk U e1
 k2 : KOk U e2
 k3 : KOk U e3
 q : QOk B B U l
 c0 : 0 <= c
 cB : c <= (B : Int)
theorem DOk.up {U : List (List UInt8)} {B B' : Nat} {e1 e2 e3 : RS} {l : List Wt} {c : Int} (h : DOk U B e1 e2 e3 l c) (hB : B <= B') : DOk U B' e1 e2 e3 l c := ⟨h.k1,h.k2,h.k3,h.q.up hB hB,h.c0,by have := h.cB; omega⟩
theorem k7 {s : List Tb} {c t : Int} {l : List Wt} (hne : l ≠ []) (hl : l.length <= 1000000) (ht : (aD l).m.t = t) : V.Spec Tryz.prog (Gl g) 29 [.c (.bx 0 0)] (nS s l c) (.tup [(true,[.d (.i (aD l).m.f),cI t,cS (S (aE (aD l).m.m))]),(false,[.d (.i (aD l).t)]),(false,[cB true])]) (nS s (bL l) c) := by
 subst ht; exact aKB s c l hne hl
inductive Dc (s : List Tb) (U : List (List UInt8)) (B : Nat) (e1 e2 e3 : RS) (l : List Wt) (c : Int) : Prop where
 | z (h : l = []) (hs : mG s ⟨e1,e2,e3,l,c⟩ = ⟨e1,e2,e3,l,c⟩)
 | a1 (hne : l ≠ []) (ht : (aD l).m.t = 1) (hk : SpR g 19 1 [.agg [.d (.i (aD l).m.f),cI 1,cS (S (aE (aD l).m.m))]] e1 (.c (cM 3 [])) (jnV e1 (aD l).m.m)) (hs : mG s ⟨e1,e2,e3,l,c⟩ = ⟨(jnV e1 (aD l).m.m),e2,e3,bL l,c⟩) (hd : DOk U (B + 30) (jnV e1 (aD l).m.m) e2 e3 (bL l) c)
 | b1 (hne : l ≠ []) (ht : (aD l).m.t = 1) (hk : SpR g 19 1 [.agg [.d (.i (aD l).m.f),cI 1,cS (S (aE (aD l).m.m))]] e1 (.c (cM 3 [[.i 1,.i (aD l).m.f,.s (S (aE (jnV e1 (aD l).m.m)))]])) (jnV e1 (aD l).m.m)) (hn : V.Spec Tryz.prog (Gl g) 30 [.c (.bx 0 0),.c (.d (.i (aD l).t)),.agg [cI 1,.d (.i (aD l).m.f),cS (S (aE (jnV e1 (aD l).m.m)))]] (nS s (bL l) c) (.tup []) (nS s (aX s (aD l).t c ⟨1,(aD l).m.f,jnV e1 (aD l).m.m⟩ (bL l)) (c + 1))) (hs : mG s ⟨e1,e2,e3,l,c⟩ = ⟨(jnV e1 (aD l).m.m),e2,e3,(aX s (aD l).t c ⟨1,(aD l).m.f,jnV e1 (aD l).m.m⟩ (bL l)),c + 1⟩) (hd : DOk U (B + 30) (jnV e1 (aD l).m.m) e2 e3 (aX s (aD l).t c ⟨1,(aD l).m.f,jnV e1 (aD l).m.m⟩ (bL l)) (c + 1))
 | a2 (hne : l ≠ []) (ht : (aD l).m.t = 2) (hk : SpR g 19 2 [.agg [.d (.i (aD l).m.f),cI 2,cS (S (aE (aD l).m.m))]] e2 (.c (cM 3 [])) (jnV e2 (aD l).m.m)) (hs : mG s ⟨e1,e2,e3,l,c⟩ = ⟨e1,(jnV e2 (aD l).m.m),e3,bL l,c⟩) (hd : DOk U (B + 30) e1 (jnV e2 (aD l).m.m) e3 (bL l) c)
 | b2 (hne : l ≠ []) (ht : (aD l).m.t = 2) (hk : SpR g 19 2 [.agg [.d (.i (aD l).m.f),cI 2,cS (S (aE (aD l).m.m))]] e2 (.c (cM 3 [[.i 2,.i (aD l).m.f,.s (S (aE (jnV e2 (aD l).m.m)))]])) (jnV e2 (aD l).m.m)) (hn : V.Spec Tryz.prog (Gl g) 30 [.c (.bx 0 0),.c (.d (.i (aD l).t)),.agg [cI 2,.d (.i (aD l).m.f),cS (S (aE (jnV e2 (aD l).m.m)))]] (nS s (bL l) c) (.tup []) (nS s (aX s (aD l).t c ⟨2,(aD l).m.f,jnV e2 (aD l).m.m⟩ (bL l)) (c + 1))) (hs : mG s ⟨e1,e2,e3,l,c⟩ = ⟨e1,(jnV e2 (aD l).m.m),e3,(aX s (aD l).t c ⟨2,(aD l).m.f,jnV e2 (aD l).m.m⟩ (bL l)),c + 1⟩) (hd : DOk U (B + 30) e1 (jnV e2 (aD l).m.m) e3 (aX s (aD l).t c ⟨2,(aD l).m.f,jnV e2 (aD l).m.m⟩ (bL l)) (c + 1))
 | a3 (hne : l ≠ []) (ht : (aD l).m.t = 3) (hk : SpR g 19 3 [.agg [.d (.i (aD l).m.f),cI 3,cS (S (aE (aD l).m.m))]] e3 (.c (cM 3 [])) (jnV e3 (aD l).m.m)) (hs : mG s ⟨e1,e2,e3,l,c⟩ = ⟨e1,e2,(jnV e3 (aD l).m.m),bL l,c⟩) (hd : DOk U (B + 30) e1 e2 (jnV e3 (aD l).m.m) (bL l) c)
 | b3 (hne : l ≠ []) (ht : (aD l).m.t = 3) (hk : SpR g 19 3 [.agg [.d (.i (aD l).m.f),cI 3,cS (S (aE (aD l).m.m))]] e3 (.c (cM 3 [[.i 3,.i (aD l).m.f,.s (S (aE (jnV e3 (aD l).m.m)))]])) (jnV e3 (aD l).m.m)) (hn : V.Spec Tryz.prog (Gl g) 30 [.c (.bx 0 0),.c (.d (.i (aD l).t)),.agg [cI 3,.d (.i (aD l).m.f),cS (S (aE (jnV e3 (aD l).m.m)))]] (nS s (bL l) c) (.tup []) (nS s (aX s (aD l).t c ⟨3,(aD l).m.f,jnV e3 (aD l).m.m⟩ (bL l)) (c + 1))) (hs : mG s ⟨e1,e2,e3,l,c⟩ = ⟨e1,e2,(jnV e3 (aD l).m.m),(aX s (aD l).t c ⟨3,(aD l).m.f,jnV e3 (aD l).m.m⟩ (bL l)),c + 1⟩) (hd : DOk U (B + 30) e1 e2 (jnV e3 (aD l).m.m) (aX s (aD l).t c ⟨3,(aD l).m.f,jnV e3 (aD l).m.m⟩ (bL l)) (c + 1))
theorem aPG {s : List Tb} {U : List (List UInt8)} {B : Nat} {e1 e2 e3 : RS} {l : List Wt} {c : Int} (hx : DOk U B e1 e2 e3 l c) (hU : U.length <= 60) (hB : B <= 100000) (hs : TOk s) : Dc (g := g) s U B e1 e2 e3 l c := by
 by_cases hne : l = [];exact .z hne (by subst hne; rfl);have hm := hx.q.m _ (aDR hne);have h0 := hx.q.t0 _ (aDR hne);have hT := hx.q.tT _ (aDR hne);have hq := q_rst hx.q hne;have hql := hq.len;have hcB := hx.cB;have hc0 := hx.c0;have hem : l.isEmpty = false := by cases l with
  | nil => exact absurd rfl hne
  | cons x r => rfl
 have h3 : (aD l).m.t = 1 \/ (aD l).m.t = 2 \/ (aD l).m.t = 3 := by have := hm.t1; have := hm.t3; omega
 rcases h3 with ht | ht | ht;have hjn := (aFL hx.k1 hm.k (by omega)).1;have hk := mR (g := g) 1 (aD l).m.f e1 (aD l).m.m hx.k1.rs hm.k.rs (by have := hx.k1.len; have := hm.k.len; omega) hm.f1 hm.f3 (by rw [<- ht]; exact hm.ne);have hst : mG s ⟨e1,e2,e3,l,c⟩ = ⟨jnV e1 (aD l).m.m,e2,e3,rpS s 1 e1 (aD l) (bL l) c,rpC e1 (aD l) c⟩ := by simp [mG,hem,ht]
 cases hmo : eO e1 (aD l).m.m with
 | false =>
  rw [rpL,hmo] at hk;exact .a1 hne ht hk (by rw [hst,rpS,rpC,hmo]; rfl) (DOk.up ⟨hjn,hx.k2,hx.k3,hq,hx.c0,hx.cB⟩ (by omega))
 | true =>
  rw [rpL,hmo] at hk;have hmm : MsOk U ⟨1,(aD l).m.f,jnV e1 (aD l).m.m⟩ := ⟨hjn,(by decide : (1 : Int) <= 1),(by decide : (1 : Int) <= 3),hm.f1,hm.f3,by intro h; exact hm.ne (by rw [ht]; exact h.symm)⟩
  have hf1 := hm.f1;have hf3 := hm.f3;exact .b1 hne ht hk (cV s c (aD l).t ⟨1,(aD l).m.f,jnV e1 (aD l).m.m⟩ (bL l) hs ⟨(by decide : (0 : Int) <= 1),(by decide : (1 : Int) < 4)⟩ ⟨by show 0 <= (aD l).m.f; omega,by show (aD l).m.f < 4; omega⟩ ⟨hx.c0,by omega⟩ ⟨h0,by omega⟩ (by omega)) (by rw [hst,rpS,rpC,hmo]; rfl) ⟨hjn,hx.k2,hx.k3,jW hq hmm hs hx.c0 h0 hT,by omega,by show c + 1 <= ((B + 30 : Nat) : Int); omega⟩
 have hjn := (aFL hx.k2 hm.k (by omega)).1;have hk := mR (g := g) 2 (aD l).m.f e2 (aD l).m.m hx.k2.rs hm.k.rs (by have := hx.k2.len; have := hm.k.len; omega) hm.f1 hm.f3 (by rw [<- ht]; exact hm.ne);have hst : mG s ⟨e1,e2,e3,l,c⟩ = ⟨e1,jnV e2 (aD l).m.m,e3,rpS s 2 e2 (aD l) (bL l) c,rpC e2 (aD l) c⟩ := by simp [mG,hem,ht]
 cases hmo : eO e2 (aD l).m.m with
 | false =>
  rw [rpL,hmo] at hk;exact .a2 hne ht hk (by rw [hst,rpS,rpC,hmo]; rfl) (DOk.up ⟨hx.k1,hjn,hx.k3,hq,hx.c0,hx.cB⟩ (by omega))
 | true =>
  rw [rpL,hmo] at hk;have hmm : MsOk U ⟨2,(aD l).m.f,jnV e2 (aD l).m.m⟩ := ⟨hjn,(by decide : (1 : Int) <= 2),(by decide : (2 : Int) <= 3),hm.f1,hm.f3,by intro h; exact hm.ne (by rw [ht]; exact h.symm)⟩
  have hf1 := hm.f1;have hf3 := hm.f3;exact .b2 hne ht hk (cV s c (aD l).t ⟨2,(aD l).m.f,jnV e2 (aD l).m.m⟩ (bL l) hs ⟨(by decide : (0 : Int) <= 2),(by decide : (2 : Int) < 4)⟩ ⟨by show 0 <= (aD l).m.f; omega,by show (aD l).m.f < 4; omega⟩ ⟨hx.c0,by omega⟩ ⟨h0,by omega⟩ (by omega)) (by rw [hst,rpS,rpC,hmo]; rfl) ⟨hx.k1,hjn,hx.k3,jW hq hmm hs hx.c0 h0 hT,by omega,by show c + 1 <= ((B + 30 : Nat) : Int); omega⟩
 have hjn := (aFL hx.k3 hm.k (by omega)).1;have hk := mR (g := g) 3 (aD l).m.f e3 (aD l).m.m hx.k3.rs hm.k.rs (by have := hx.k3.len; have := hm.k.len; omega) hm.f1 hm.f3 (by rw [<- ht]; exact hm.ne);have hst : mG s ⟨e1,e2,e3,l,c⟩ = ⟨e1,e2,jnV e3 (aD l).m.m,rpS s 3 e3 (aD l) (bL l) c,rpC e3 (aD l) c⟩ := by simp [mG,hem,ht]
 cases hmo : eO e3 (aD l).m.m with
 | false =>
  rw [rpL,hmo] at hk;exact .a3 hne ht hk (by rw [hst,rpS,rpC,hmo]; rfl) (DOk.up ⟨hx.k1,hx.k2,hjn,hq,hx.c0,hx.cB⟩ (by omega))
 | true =>
  rw [rpL,hmo] at hk;have hmm : MsOk U ⟨3,(aD l).m.f,jnV e3 (aD l).m.m⟩ := ⟨hjn,(by decide : (1 : Int) <= 3),(by decide : (3 : Int) <= 3),hm.f1,hm.f3,by intro h; exact hm.ne (by rw [ht]; exact h.symm)⟩
  have hf1 := hm.f1;have hf3 := hm.f3;exact .b3 hne ht hk (cV s c (aD l).t ⟨3,(aD l).m.f,jnV e3 (aD l).m.m⟩ (bL l) hs ⟨(by decide : (0 : Int) <= 3),(by decide : (3 : Int) < 4)⟩ ⟨by show 0 <= (aD l).m.f; omega,by show (aD l).m.f < 4; omega⟩ ⟨hx.c0,by omega⟩ ⟨h0,by omega⟩ (by omega)) (by rw [hst,rpS,rpC,hmo]; rfl) ⟨hx.k1,hx.k2,hjn,jW hq hmm hs hx.c0 h0 hT,by omega,by show c + 1 <= ((B + 30 : Nat) : Int); omega⟩
abbrev y49 (a0 : LD) : Ob := .box 121 [cI 4,cM 3 a0,.d (.v (.map none)),.d (.v (.nilIface)),cI 0]
theorem aKD (s : List Tb) (hs : s.length <= 8) :
  SpG g 27 [.c (cI 4),.c (cM 3 (aK s))] [] (.c (.bx 100 0)) [(100,y49 (aK s))] := by
 refine aP 10 Tryz.func27 fun fr hG => ?_;refine bJ hG aY [(1,2,kC (.c (cM 3 (aK s))))] [204] (.c (.bx 100 0)) [(100,y49 (aK s))] (by kernel_rfl) (cS1 g (aK0 s (by omega))) ?_ ?_;rfl
 first | rfl | (funext i; simp only [aF,upd]; ((repeat' split) <;> first | rfl | (exfalso; omega)))
theorem aAP (s : List Tb) (n c0 : Int) (l0 : List Wt) (a1 a2 a3 : RS) (ms : LD) (U : List (List UInt8)) (B : Nat) (hs0 : TOk s) (hn0 : 0 <= n /\ n <= 1000) (hU : U.length <= 60) (hB : B <= 20000) (hx : DOk U B a1 a2 a3 l0 c0) :
  SpG g 28 [.c (cI n),.c (.bx 0 0),.c (.bx 4 0)] (dwS s l0 c0 a1 a2 a3 ms) (.tup []) (dwS s ((fI s n.toNat ⟨a1,a2,a3,l0,c0⟩).l) ((fI s n.toNat ⟨a1,a2,a3,l0,c0⟩).c) ((fI s n.toNat ⟨a1,a2,a3,l0,c0⟩).e1) ((fI s n.toNat ⟨a1,a2,a3,l0,c0⟩).e2) ((fI s n.toNat ⟨a1,a2,a3,l0,c0⟩).e3) ms) := by
 refine aP 52 Tryz.func28 fun fr hG => ?_;refine zL hG [] [0,1] (fun (zz : Nat × RS × RS × RS × List Wt × Int) => match zz with | (k,e1,e2,e3,l,c) => (n.toNat - k,⟨dE 4 n k,(dwS s l c e1 e2 e3 ms)⟩,k <= n.toNat /\ DOk U (B + 30 * k) e1 e2 e3 l c /\ fI s (n.toNat - k) ⟨e1,e2,e3,l,c⟩ = fI s n.toNat ⟨a1,a2,a3,l0,c0⟩)) (0,a1,a2,a3,l0,c0) aB ?_ ?_
 ·exact ⟨zl _,hx,rfl⟩
 rintro ⟨k,e1,e2,e3,l,c⟩ ⟨hkl,hd0,hR⟩;refine zp hG [] [0,1] ((k : Int) < n) aB (fun hc2 => ?_) (fun hc2 => ?_)
 ·skip
  rcases aPG (g := g) hd0 hU (by omega) hs0 with ⟨hln,hs⟩ | ⟨hne,ht,hk,hs,hd⟩ | ⟨hne,ht,hk,hn,hs,hd⟩ | ⟨hne,ht,hk,hs,hd⟩ | ⟨hne,ht,hk,hn,hs,hd⟩ | ⟨hne,ht,hk,hs,hd⟩ | ⟨hne,ht,hk,hn,hs,hd⟩
  ·skip
   refine jS (by kernel_rfl) ?_;refine eW (f := 100) (pos := [1,1]) (by kernel_rfl) ?_;refine iF aY 1 (pos' := [0,1,1]) (by kernel_rfl) ?_;refine cT hG aY [eM 29 fun _ => some y35] nFQ nFQ nFQ 100 .normal (⟨dE 4 n k,(dwS s l c e1 e2 e3 ms)⟩) (cs := [V.Spec Tryz.prog (Gl g) 29 [.c (.bx 0 0)] (nS s l c) y35 (nS s l c)]) (by kernel_rfl) (aNQ s c l hln) ?_;refine zD hG [] (k + 1,e1,e2,e3,l,c) (aC (by intros; (try simp only [inR,aH,aU] at *); omega : inR ((k : Int) + 1))) ?_ ?_
   ·(try dsimp only); omega
   ·have hkn : n.toNat - k = (n.toNat - (k + 1)) + 1 := by omega
    rw [hkn,fI,hs] at hR;exact ⟨by omega,hd0.up (by omega),hR⟩
  ·skip
   refine jS (by kernel_rfl) ?_;refine eW (f := 100) (pos := [1,1]) (by kernel_rfl) ?_;refine iF aY 1 (pos' := [0,1,1]) (by kernel_rfl) ?_;refine cT hG aY [eT 29 fun _ _ => some (.tup [(true,[.d (.i (aD l).m.f),cI 1,cS (S (aE (aD l).m.m))]),(false,[.d (.i (aD l).t)]),(false,[cB true])],nS s (bL l) c),eT 19 fun _ _ => some (.c (cM 3 []),rR 1 (jnV e1 (aD l).m.m))] nFQ nFQ nFQ 100 .normal (⟨dE 4 n k,(dwS s (bL l) c (jnV e1 (aD l).m.m) e2 e3 ms)⟩) (cs := [SpR g 19 1 [.agg [.d (.i (aD l).m.f),cI 1,cS (S (aE (aD l).m.m))]] e1 (.c (cM 3 [])) (jnV e1 (aD l).m.m),V.Spec Tryz.prog (Gl g) 29 [.c (.bx 0 0)] (nS s l c) (.tup [(true,[.d (.i (aD l).m.f),cI 1,cS (S (aE (aD l).m.m))]),(false,[.d (.i (aD l).t)]),(false,[cB true])]) (nS s (bL l) c)]) (by kernel_rfl) (⟨hk,k7 hne (by have := hd0.q.len; omega) ht⟩) ?_;refine zD hG [] (k + 1,jnV e1 (aD l).m.m,e2,e3,bL l,c) (aC (by intros; (try simp only [inR,aH,aU] at *); omega : inR ((k : Int) + 1))) ?_ ?_
   ·(try dsimp only); omega
   ·have hkn : n.toNat - k = (n.toNat - (k + 1)) + 1 := by omega
    rw [hkn,fI,hs] at hR;exact ⟨by omega,hd.up (by omega),hR⟩
  ·skip
   refine jS (by kernel_rfl) ?_;refine eW (f := 100) (pos := [1,1]) (by kernel_rfl) ?_;refine iF aY 1 (pos' := [0,1,1]) (by kernel_rfl) ?_;refine cT hG aY [eT 29 fun _ _ => some (.tup [(true,[.d (.i (aD l).m.f),cI 1,cS (S (aE (aD l).m.m))]),(false,[.d (.i (aD l).t)]),(false,[cB true])],nS s (bL l) c),eT 19 fun _ _ => some (.c (cM 3 [[.i 1,.i (aD l).m.f,.s (S (aE (jnV e1 (aD l).m.m)))]]),rR 1 (jnV e1 (aD l).m.m)),eT 30 fun _ _ => some (.tup [],nS s (aX s (aD l).t c ⟨1,(aD l).m.f,jnV e1 (aD l).m.m⟩ (bL l)) (c + 1))] nFQ nFQ nFQ 100 .normal (⟨dE 4 n k,(dwS s (aX s (aD l).t c ⟨1,(aD l).m.f,jnV e1 (aD l).m.m⟩ (bL l)) (c + 1) (jnV e1 (aD l).m.m) e2 e3 ms)⟩) (cs := [sdP g (aD l).t ⟨1,(aD l).m.f,(jnV e1 (aD l).m.m)⟩ (nS s (bL l) c) (nS s (aX s (aD l).t c ⟨1,(aD l).m.f,jnV e1 (aD l).m.m⟩ (bL l)) (c + 1)),SpR g 19 1 [.agg [.d (.i (aD l).m.f),cI 1,cS (S (aE (aD l).m.m))]] e1 (.c (cM 3 [[.i 1,.i (aD l).m.f,.s (S (aE (jnV e1 (aD l).m.m)))]])) (jnV e1 (aD l).m.m),V.Spec Tryz.prog (Gl g) 29 [.c (.bx 0 0)] (nS s l c) (.tup [(true,[.d (.i (aD l).m.f),cI 1,cS (S (aE (aD l).m.m))]),(false,[.d (.i (aD l).t)]),(false,[cB true])]) (nS s (bL l) c)]) (by kernel_rfl) (⟨hn,hk,k7 hne (by have := hd0.q.len; omega) ht⟩) ?_;refine zD hG [] (k + 1,jnV e1 (aD l).m.m,e2,e3,aX s (aD l).t c ⟨1,(aD l).m.f,jnV e1 (aD l).m.m⟩ (bL l),c + 1) (aC (by intros; (try simp only [inR,aH,aU] at *); omega : inR ((k : Int) + 1))) ?_ ?_
   ·(try dsimp only); omega
   ·have hkn : n.toNat - k = (n.toNat - (k + 1)) + 1 := by omega
    rw [hkn,fI,hs] at hR;exact ⟨by omega,hd.up (by omega),hR⟩
  ·skip
   refine jS (by kernel_rfl) ?_;refine eW (f := 100) (pos := [1,1]) (by kernel_rfl) ?_;refine iF aY 1 (pos' := [0,1,1]) (by kernel_rfl) ?_;refine cT hG aY [eT 29 fun _ _ => some (.tup [(true,[.d (.i (aD l).m.f),cI 2,cS (S (aE (aD l).m.m))]),(false,[.d (.i (aD l).t)]),(false,[cB true])],nS s (bL l) c),eT 19 fun _ _ => some (.c (cM 3 []),rR 2 (jnV e2 (aD l).m.m))] nFQ nFQ nFQ 100 .normal (⟨dE 4 n k,(dwS s (bL l) c e1 (jnV e2 (aD l).m.m) e3 ms)⟩) (cs := [SpR g 19 2 [.agg [.d (.i (aD l).m.f),cI 2,cS (S (aE (aD l).m.m))]] e2 (.c (cM 3 [])) (jnV e2 (aD l).m.m),V.Spec Tryz.prog (Gl g) 29 [.c (.bx 0 0)] (nS s l c) (.tup [(true,[.d (.i (aD l).m.f),cI 2,cS (S (aE (aD l).m.m))]),(false,[.d (.i (aD l).t)]),(false,[cB true])]) (nS s (bL l) c)]) (by kernel_rfl) (⟨hk,k7 hne (by have := hd0.q.len; omega) ht⟩) ?_;refine zD hG [] (k + 1,e1,jnV e2 (aD l).m.m,e3,bL l,c) (aC (by intros; (try simp only [inR,aH,aU] at *); omega : inR ((k : Int) + 1))) ?_ ?_
   ·(try dsimp only); omega
   ·have hkn : n.toNat - k = (n.toNat - (k + 1)) + 1 := by omega
    rw [hkn,fI,hs] at hR;exact ⟨by omega,hd.up (by omega),hR⟩
  ·skip
   refine jS (by kernel_rfl) ?_;refine eW (f := 100) (pos := [1,1]) (by kernel_rfl) ?_;refine iF aY 1 (pos' := [0,1,1]) (by kernel_rfl) ?_;refine cT hG aY [eT 29 fun _ _ => some (.tup [(true,[.d (.i (aD l).m.f),cI 2,cS (S (aE (aD l).m.m))]),(false,[.d (.i (aD l).t)]),(false,[cB true])],nS s (bL l) c),eT 19 fun _ _ => some (.c (cM 3 [[.i 2,.i (aD l).m.f,.s (S (aE (jnV e2 (aD l).m.m)))]]),rR 2 (jnV e2 (aD l).m.m)),eT 30 fun _ _ => some (.tup [],nS s (aX s (aD l).t c ⟨2,(aD l).m.f,jnV e2 (aD l).m.m⟩ (bL l)) (c + 1))] nFQ nFQ nFQ 100 .normal (⟨dE 4 n k,(dwS s (aX s (aD l).t c ⟨2,(aD l).m.f,jnV e2 (aD l).m.m⟩ (bL l)) (c + 1) e1 (jnV e2 (aD l).m.m) e3 ms)⟩) (cs := [sdP g (aD l).t ⟨2,(aD l).m.f,(jnV e2 (aD l).m.m)⟩ (nS s (bL l) c) (nS s (aX s (aD l).t c ⟨2,(aD l).m.f,jnV e2 (aD l).m.m⟩ (bL l)) (c + 1)),SpR g 19 2 [.agg [.d (.i (aD l).m.f),cI 2,cS (S (aE (aD l).m.m))]] e2 (.c (cM 3 [[.i 2,.i (aD l).m.f,.s (S (aE (jnV e2 (aD l).m.m)))]])) (jnV e2 (aD l).m.m),V.Spec Tryz.prog (Gl g) 29 [.c (.bx 0 0)] (nS s l c) (.tup [(true,[.d (.i (aD l).m.f),cI 2,cS (S (aE (aD l).m.m))]),(false,[.d (.i (aD l).t)]),(false,[cB true])]) (nS s (bL l) c)]) (by kernel_rfl) (⟨hn,hk,k7 hne (by have := hd0.q.len; omega) ht⟩) ?_;refine zD hG [] (k + 1,e1,jnV e2 (aD l).m.m,e3,aX s (aD l).t c ⟨2,(aD l).m.f,jnV e2 (aD l).m.m⟩ (bL l),c + 1) (aC (by intros; (try simp only [inR,aH,aU] at *); omega : inR ((k : Int) + 1))) ?_ ?_
   ·(try dsimp only); omega
   ·have hkn : n.toNat - k = (n.toNat - (k + 1)) + 1 := by omega
    rw [hkn,fI,hs] at hR;exact ⟨by omega,hd.up (by omega),hR⟩
  ·skip
   refine jS (by kernel_rfl) ?_;refine eW (f := 100) (pos := [1,1]) (by kernel_rfl) ?_;refine iF aY 1 (pos' := [0,1,1]) (by kernel_rfl) ?_;refine cT hG aY [eT 29 fun _ _ => some (.tup [(true,[.d (.i (aD l).m.f),cI 3,cS (S (aE (aD l).m.m))]),(false,[.d (.i (aD l).t)]),(false,[cB true])],nS s (bL l) c),eT 19 fun _ _ => some (.c (cM 3 []),rR 3 (jnV e3 (aD l).m.m))] nFQ nFQ nFQ 100 .normal (⟨dE 4 n k,(dwS s (bL l) c e1 e2 (jnV e3 (aD l).m.m) ms)⟩) (cs := [SpR g 19 3 [.agg [.d (.i (aD l).m.f),cI 3,cS (S (aE (aD l).m.m))]] e3 (.c (cM 3 [])) (jnV e3 (aD l).m.m),V.Spec Tryz.prog (Gl g) 29 [.c (.bx 0 0)] (nS s l c) (.tup [(true,[.d (.i (aD l).m.f),cI 3,cS (S (aE (aD l).m.m))]),(false,[.d (.i (aD l).t)]),(false,[cB true])]) (nS s (bL l) c)]) (by kernel_rfl) (⟨hk,k7 hne (by have := hd0.q.len; omega) ht⟩) ?_;refine zD hG [] (k + 1,e1,e2,jnV e3 (aD l).m.m,bL l,c) (aC (by intros; (try simp only [inR,aH,aU] at *); omega : inR ((k : Int) + 1))) ?_ ?_
   ·(try dsimp only); omega
   ·have hkn : n.toNat - k = (n.toNat - (k + 1)) + 1 := by omega
    rw [hkn,fI,hs] at hR;exact ⟨by omega,hd.up (by omega),hR⟩
  ·skip
   refine jS (by kernel_rfl) ?_;refine eW (f := 100) (pos := [1,1]) (by kernel_rfl) ?_;refine iF aY 1 (pos' := [0,1,1]) (by kernel_rfl) ?_;refine cT hG aY [eT 29 fun _ _ => some (.tup [(true,[.d (.i (aD l).m.f),cI 3,cS (S (aE (aD l).m.m))]),(false,[.d (.i (aD l).t)]),(false,[cB true])],nS s (bL l) c),eT 19 fun _ _ => some (.c (cM 3 [[.i 3,.i (aD l).m.f,.s (S (aE (jnV e3 (aD l).m.m)))]]),rR 3 (jnV e3 (aD l).m.m)),eT 30 fun _ _ => some (.tup [],nS s (aX s (aD l).t c ⟨3,(aD l).m.f,jnV e3 (aD l).m.m⟩ (bL l)) (c + 1))] nFQ nFQ nFQ 100 .normal (⟨dE 4 n k,(dwS s (aX s (aD l).t c ⟨3,(aD l).m.f,jnV e3 (aD l).m.m⟩ (bL l)) (c + 1) e1 e2 (jnV e3 (aD l).m.m) ms)⟩) (cs := [sdP g (aD l).t ⟨3,(aD l).m.f,(jnV e3 (aD l).m.m)⟩ (nS s (bL l) c) (nS s (aX s (aD l).t c ⟨3,(aD l).m.f,jnV e3 (aD l).m.m⟩ (bL l)) (c + 1)),SpR g 19 3 [.agg [.d (.i (aD l).m.f),cI 3,cS (S (aE (aD l).m.m))]] e3 (.c (cM 3 [[.i 3,.i (aD l).m.f,.s (S (aE (jnV e3 (aD l).m.m)))]])) (jnV e3 (aD l).m.m),V.Spec Tryz.prog (Gl g) 29 [.c (.bx 0 0)] (nS s l c) (.tup [(true,[.d (.i (aD l).m.f),cI 3,cS (S (aE (aD l).m.m))]),(false,[.d (.i (aD l).t)]),(false,[cB true])]) (nS s (bL l) c)]) (by kernel_rfl) (⟨hn,hk,k7 hne (by have := hd0.q.len; omega) ht⟩) ?_;refine zD hG [] (k + 1,e1,e2,jnV e3 (aD l).m.m,aX s (aD l).t c ⟨3,(aD l).m.f,jnV e3 (aD l).m.m⟩ (bL l),c + 1) (aC (by intros; (try simp only [inR,aH,aU] at *); omega : inR ((k : Int) + 1))) ?_ ?_
   ·(try dsimp only); omega
   ·have hkn : n.toNat - k = (n.toNat - (k + 1)) + 1 := by omega
    rw [hkn,fI,hs] at hR;exact ⟨by omega,hd.up (by omega),hR⟩
 ·skip
  have hkk : k = n.toNat := by omega
  rw [hkk,Nat.sub_self] at hR;have hR2 : (⟨e1,e2,e3,l,c⟩ : Wd) = fI s n.toNat ⟨a1,a2,a3,l0,c0⟩ := hR;refine zE hG [] (.exit 0) (⟨[],(dwS s l c e1 e2 e3 ms)⟩) aB rfl ?_;refine bJ hG aY [] [] (.tup []) (dwS s l c e1 e2 e3 ms) (by kernel_rfl) aB ?_ ?_
  ·rfl
  ·rw [<- hR2]
   all_goals (first | rfl | (funext i; simp only [aF,upd]; ((repeat' split) <;> first | rfl | (exfalso; omega))))
theorem gC (s : List Tb) (n c : Int) (e1 e2 e3 : RS) (ms : LD) (hn0 : 0 <= n /\ n <= 1000) :
  SpG g 28 [.c (cI n),.c (.bx 0 0),.c (.bx 2 0)] (dwZ s c e1 e2 e3 ms) (.tup []) (dwZ s c e1 e2 e3 ms) := by
 refine aP 52 Tryz.func28 fun fr hG => ?_;refine zL hG [] [0,1] (fun (zz : Nat) => match zz with | k => (n.toNat - k,⟨dE 2 n k,(dwZ s c e1 e2 e3 ms)⟩,k <= n.toNat)) 0 aB ?_ ?_;exact zl _;rintro k hkl;refine zp hG [] [0,1] ((k : Int) < n) aB (fun hc2 => ?_) (fun hc2 => ?_);skip;refine jS (by kernel_rfl) ?_;refine eW (f := 100) (pos := [1,1]) (by kernel_rfl) ?_;refine iF aY 1 (pos' := [0,1,1]) (by kernel_rfl) ?_;refine cT hG aY [eM 29 fun _ => some y35] nFQ nFQ nFQ 100 .normal (⟨dE 2 n k,(dwZ s c e1 e2 e3 ms)⟩) (cs := [V.Spec Tryz.prog (Gl g) 29 [.c (.bx 0 0)] (nZ s c) y35 (nZ s c)]) (by kernel_rfl) (aKC s c) ?_;refine zD hG [] (k + 1) (aC (by intros; (try simp only [inR,aH,aU] at *); omega : inR ((k : Int) + 1))) ?_ ?_
 (try dsimp only); omega
 show k + 1 <= n.toNat; omega;skip;refine zE hG [] (.exit 0) (⟨[],(dwZ s c e1 e2 e3 ms)⟩) aB rfl ?_;refine bJ hG aY [] [] (.tup []) (dwZ s c e1 e2 e3 ms) (by kernel_rfl) aB ?_ ?_;rfl
 first | rfl | (funext i; simp only [aF,upd]; ((repeat' split) <;> first | rfl | (exfalso; omega)))
end
end Go.Proofs.YtclaplngjmgnoaaGreatDoor
