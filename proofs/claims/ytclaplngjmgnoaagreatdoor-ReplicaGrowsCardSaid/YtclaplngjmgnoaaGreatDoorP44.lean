/- Part 44 of the proof. -/
import Derived.Test.YtclaplngjmgnoaaGreatDoorP29
import Derived.Test.YtclaplngjmgnoaaGreatDoorP34
import Derived.Test.YtclaplngjmgnoaaGreatDoorP35
import Derived.Test.YtclaplngjmgnoaaGreatDoorP36
import Derived.Test.YtclaplngjmgnoaaGreatDoorP39
import Derived.Test.YtclaplngjmgnoaaGreatDoorP41
import Derived.Test.YtclaplngjmgnoaaGreatDoorP42
import Derived.Test.YtclaplngjmgnoaaGreatDoorP43
set_option linter.all false
namespace Go.Proofs.YtclaplngjmgnoaaGreatDoor
set_option maxRecDepth 100000
open Go.RowKit Go.V
section
variable {g : Gv}
theorem aNC (n v : Int) (a : Int) (h1 : V.Spec Tryz.prog (Gl g) 44 [.c (cI n),.c (cI 18)] [] (.c (cI v)) []) (h2 : 0 <= v /\ (progs.map fun p => [D.sl 1 (intsD p)])[v.toNat]? = some [.sl 1 (intsD [a])]) : V.Spec Tryz.prog (Gl g) 86 [.agg g0C,.c (cI n)] [] (.c (cM 1 (intsD [a]))) [] :=
 oI pkO pkL (pkH [a]) (T := pkT v) (ne := []) (df := []) (F := 100000) (d := 60) (cs := [V.Spec Tryz.prog (Gl g) 44 [.c (cI n),.c (cI 18)] [] (.c (cI v)) [],0 <= v /\ (progs.map fun p => [D.sl 1 (intsD p)])[v.toNat]? = some [.sl 1 (intsD [a])]]) hmx (by kernel_rfl) ⟨h1,h2⟩
theorem aNB (n v : Int) (a b : Int) (h1 : V.Spec Tryz.prog (Gl g) 44 [.c (cI n),.c (cI 18)] [] (.c (cI v)) []) (h2 : 0 <= v /\ (progs.map fun p => [D.sl 1 (intsD p)])[v.toNat]? = some [.sl 1 (intsD [a,b])]) : V.Spec Tryz.prog (Gl g) 86 [.agg g0C,.c (cI n)] [] (.c (cM 1 (intsD [a,b]))) [] :=
 oI pkO pkL (pkH [a,b]) (T := pkT v) (ne := []) (df := []) (F := 100000) (d := 60) (cs := [V.Spec Tryz.prog (Gl g) 44 [.c (cI n),.c (cI 18)] [] (.c (cI v)) [],0 <= v /\ (progs.map fun p => [D.sl 1 (intsD p)])[v.toNat]? = some [.sl 1 (intsD [a,b])]]) hmx (by kernel_rfl) ⟨h1,h2⟩
theorem oX (n v : Int) (a b c : Int) (h1 : V.Spec Tryz.prog (Gl g) 44 [.c (cI n),.c (cI 18)] [] (.c (cI v)) []) (h2 : 0 <= v /\ (progs.map fun p => [D.sl 1 (intsD p)])[v.toNat]? = some [.sl 1 (intsD [a,b,c])]) : V.Spec Tryz.prog (Gl g) 86 [.agg g0C,.c (cI n)] [] (.c (cM 1 (intsD [a,b,c]))) [] :=
 oI pkO pkL (pkH [a,b,c]) (T := pkT v) (ne := []) (df := []) (F := 100000) (d := 60) (cs := [V.Spec Tryz.prog (Gl g) 44 [.c (cI n),.c (cI 18)] [] (.c (cI v)) [],0 <= v /\ (progs.map fun p => [D.sl 1 (intsD p)])[v.toNat]? = some [.sl 1 (intsD [a,b,c])]]) hmx (by kernel_rfl) ⟨h1,h2⟩
theorem jK (n v : Int) (a b c d : Int) (h1 : V.Spec Tryz.prog (Gl g) 44 [.c (cI n),.c (cI 18)] [] (.c (cI v)) []) (h2 : 0 <= v /\ (progs.map fun p => [D.sl 1 (intsD p)])[v.toNat]? = some [.sl 1 (intsD [a,b,c,d])]) : V.Spec Tryz.prog (Gl g) 86 [.agg g0C,.c (cI n)] [] (.c (cM 1 (intsD [a,b,c,d]))) [] :=
 oI pkO pkL (pkH [a,b,c,d]) (T := pkT v) (ne := []) (df := []) (F := 100000) (d := 60) (cs := [V.Spec Tryz.prog (Gl g) 44 [.c (cI n),.c (cI 18)] [] (.c (cI v)) [],0 <= v /\ (progs.map fun p => [D.sl 1 (intsD p)])[v.toNat]? = some [.sl 1 (intsD [a,b,c,d])]]) hmx (by kernel_rfl) ⟨h1,h2⟩
end
section
variable {g : Gv}
def TXS : List (List UInt8) := [[65],[66],[97],[97,49],[49,50,45,120],[],[72,73,71,72],[88,49],[45],[49],[49,50]]
def Cok (v : Tv) : Prop := v = none \/ ∃ t,t ∈ rowTx /\ v = some t
theorem rW : ∀ t,t ∈ rowTx -> bE (some t) := by
 intro t ht
 simp only [rowTx,mc,List.not_mem_nil,or_false] at ht
 rcases ht with rfl | rfl | rfl | rfl | rfl | rfl | rfl | rfl <;> (unfold bE; kernel_rfl)
theorem aGH : ∀ t,t ∈ TXS -> bE (some t) /\ t.length <= 4 := by
 intro t ht
 simp only [TXS,mc,List.not_mem_nil,or_false] at ht
 rcases ht with rfl | rfl | rfl | rfl | rfl | rfl | rfl | rfl | rfl | rfl | rfl <;> exact ⟨by unfold bE; kernel_rfl,by decide⟩
theorem eY : bE none := by unfold bE; kernel_rfl
theorem Cok.ok {v : Tv} (h : Cok v) : bE v := by
 rcases h with rfl | ⟨t,ht,rfl⟩
 exact eY
 exact rW t ht
theorem gW (s : List UInt8) (h : bE (some s)) : RgT g (S s) := by
 have hl : s.length <= 200 := fA h
 have hp := aJR (g := g) (S s) (by rw [aH]; unfold maxLen; omega)
 have e : cR (S s) = true := h
 rw [e] at hp
 exact rightX2 (S s) ⟨eqX (S s) (show Value.bool ((S s).toList == (S s).toList) = .bool true by simp),hp⟩
theorem pD (l : List (List UInt8)) (v : Int) (h0 : 0 <= v) (h1 : v < l.length) : ∃ t,t ∈ l /\ (l.map fun t => [D.s (S t)])[v.toNat]? = some [.s (S t)] :=
 ⟨l[v.toNat]'(by omega),List.getElem_mem _,by rw [List.getElem?_map,ge (by omega)]; rfl⟩
theorem cJ (l : List Int) (k n : Int) (h : NumOk l k) (hn : n <= 1000000000000000001) : Nx g l k n (nxV l k n) (nxK l k n) := hY l k n h hn
theorem aMT (l : List Int) (h : NumOk l 0) : ∃ a b : Tv,Cok a /\ Cok b /\ V.Spec Tryz.prog (Gl g) 88 [.agg g0C,.c (cM 1 (intsD l))] [] (.c (cM 7 [TvD a,TvD b])) [] := by
 have b1 := c8 l 0 (n := 8) (by decide)
 have n1 := h.next 8
 have n2 := n1.next 12
 have b2 := c8 l (nxK l (nxK l 0 8) 12) (n := 8) (by decide)
 have n3 := n2.next 8
 obtain ⟨t1,m1,e1⟩ := pD rowTx _ b1.1 b1.2
 obtain ⟨t2,m2,e2⟩ := pD rowTx _ b2.1 b2.2
 have x1 := cJ (g := g) l 0 8 h (by decide)
 have x2 := cJ (g := g) l _ 12 n1 (by decide)
 have x3 := cJ (g := g) l _ 8 n2 (by decide)
 have x4 := cJ (g := g) l _ 12 n3 (by decide)
 by_cases c1 : nxV l (nxK l 0 8) 12 = 11 <;> by_cases c2 : nxV l (nxK l (nxK l (nxK l 0 8) 12) 8) 12 = 11
 ·exact ⟨none,none,.inl rfl,.inl rfl,le_c (rowX11 l _ _ _ _ _ _ _ _ t1 t2 ⟨(decide_eq_true c2),x4,x3,⟨b2.1,e2⟩,(decide_eq_true c1),x2,x1,⟨b1.1,e1⟩⟩) (.two (vV 0) (vV 0))⟩
 ·exact ⟨none,some t2,.inl rfl,.inr ⟨t2,m2,rfl⟩,le_c (rowX10 l _ _ _ _ _ _ _ _ t1 t2 ⟨(decide_eq_false c2),x4,x3,⟨b2.1,e2⟩,(decide_eq_true c1),x2,x1,⟨b1.1,e1⟩⟩) (.two (vV 0) (vU _))⟩
 ·exact ⟨some t1,none,.inr ⟨t1,m1,rfl⟩,.inl rfl,le_c (rowX01 l _ _ _ _ _ _ _ _ t1 t2 ⟨(decide_eq_true c2),x4,x3,⟨b2.1,e2⟩,(decide_eq_false c1),x2,x1,⟨b1.1,e1⟩⟩) (.two (vU _) (vV 0))⟩
 ·exact ⟨some t1,some t2,.inr ⟨t1,m1,rfl⟩,.inr ⟨t2,m2,rfl⟩,le_c (rowX00 l _ _ _ _ _ _ _ _ t1 t2 ⟨(decide_eq_false c2),x4,x3,⟨b2.1,e2⟩,(decide_eq_false c1),x2,x1,⟨b1.1,e1⟩⟩) (.two (vU _) (vU _))⟩
theorem qY (a b : Tv) (ha : bE a) (hb : bE b) : V.Spec Tryz.prog (Gl g) 342 [lD,.c (cM 7 [TvD a,TvD b])] [] (.c (cB true)) [] := by
 cases a with
 | none => cases b with
  | none => exact fitsXNN (S []) (S []) ⟨rY,rY⟩
  | some t => exact fitsXNT (S []) (S t) ⟨gW t hb,rY⟩
 | some s => cases b with
  | none => exact fitsXTN (S s) (S []) ⟨rY,gW s ha⟩
  | some t => exact fitsXTT (S s) (S t) ⟨gW t hb,gW s ha⟩
inductive Res where
 | ok (s : List UInt8)
 | bad (e : Int)
def outR : Res -> SV
 | .ok s => oL (S s)
 | .bad e => oE e
def EvS (g : Gv) (p : List Int) (row : D) (r : Res) : Prop := V.Spec Tryz.prog (Gl g) 211 [.agg g0C,nT,.c (cM 1 (intsD p)),.c (.d row)] [] (outR r) []
def aQJ (r : Res) : Prop := (∃ s,s ∈ TXS /\ r = .ok s) \/ r = .bad 16
def ResS (r : Res) : Prop := (∃ s,bE (some s) /\ s.length <= 4 /\ r = .ok s) \/ r = .bad 16
def ResT (r : Res) : Prop := (∃ s,bE (some s) /\ r = .ok s) \/ r = .bad 16 \/ r = .bad 18
theorem ResS.t {r : Res} (h : ResS r) : ResT r := by
 rcases h with ⟨s,h1,_,rfl⟩ | rfl
 exact .inl ⟨s,h1,rfl⟩
 exact .inr (.inl rfl)
theorem jW : V.Spec Tryz.prog (Gl g) 141 [.c (cI 16)] [] (oF 16) [] := dZ (l := [.i 0,.s (S []),.i 0,.i 0,.i 16,nlD,nlD]) failX16 (vV 16)
theorem z1 : V.Spec Tryz.prog (Gl g) 141 [.c (cI 18)] [] (oF 18) [] := dZ (l := [.i 0,.s (S []),.i 0,.i 0,.i 18,nlD,nlD]) failX18 (vV 18)
theorem sV {f : FuncId} {ins : List SV} {s : ByteArray} (h : V.Spec Tryz.prog (Gl g) f ins [] (oN s) []) : V.Spec Tryz.prog (Gl g) f ins [] (oL s) [] := aN4 (l := [.i 1,.s s,.i 0,.i 0,.i 0,nlD,nlD]) h (vU s) rfl
theorem yQ {f : FuncId} {ins : List SV} {s : ByteArray} (h : V.Spec Tryz.prog (Gl g) f ins [] (oC s) []) : V.Spec Tryz.prog (Gl g) f ins [] (oL s) [] := aN4 (l := [.i 1,.s s,.i 0,.i 0,.i 0,.sl 1 [],nlD]) h (le_tx' s) rfl
theorem oP : ∀ t,t ∈ rowTx -> t ∈ TXS := by
 intro t ht
 simp only [rowTx,mc,List.not_mem_nil,or_false] at ht
 rcases ht with rfl | rfl | rfl | rfl | rfl | rfl | rfl | rfl <;> decide
theorem aO1 (a b : Tv) (ha : Cok a) (hb : Cok b) : ∃ r,ResS r /\ EvS g [0] (.sl 7 [TvD a,TvD b]) r := by
 have hf := qY (g := g) a b ha.ok hb.ok
 rcases ha with rfl | ⟨s,hs,rfl⟩
 exact ⟨.bad 16,.inr rfl,ev0E [] _ 16 ⟨aPH (TvD b) hf,aML⟩⟩
 exact ⟨.ok s,.inl ⟨s,rW s hs,(aGH s (oP s hs)).2,rfl⟩,ev0T [] _ (S s) ⟨yQ (aPG (S s) (TvD b) hf),aML⟩⟩
theorem aO0 (a b : Tv) (ha : Cok a) (hb : Cok b) : ∃ r,ResS r /\ EvS g [1] (.sl 7 [TvD a,TvD b]) r := by
 have hf := qY (g := g) a b ha.ok hb.ok
 rcases hb with rfl | ⟨s,hs,rfl⟩
 exact ⟨.bad 16,.inr rfl,ev1E [] _ 16 ⟨colBE (TvD a) hf,aMK⟩⟩
 exact ⟨.ok s,.inl ⟨s,rW s hs,(aGH s (oP s hs)).2,rfl⟩,ev1T [] _ (S s) ⟨yQ (colBX (S s) (TvD a) hf),aMK⟩⟩
theorem ev4_ok (a b : Tv) (ha : Cok a) (hb : Cok b) : ∃ r,aQJ r /\ EvS g [4] (.sl 7 [TvD a,TvD b]) r := by
 have hf := qY (g := g) a b ha.ok hb.ok
 rcases ha with rfl | ⟨s,hs,rfl⟩
 exact ⟨.bad 16,.inr rfl,ev4E [] _ 16 ⟨aPH (TvD b) hf,xX⟩⟩
 exact ⟨.ok s,.inl ⟨s,oP s hs,rfl⟩,ev4T [] _ (S s) ⟨yQ (aPG (S s) (TvD b) hf),xX⟩⟩
theorem ev5_ok (row : D) : ∃ r,aQJ r /\ EvS g [5] row r := ⟨.ok [45],.inl ⟨[45],by decide,rfl⟩,ev5T [] row (S [45]) ⟨sV (aP6 (.c (.d row))),aME⟩⟩
theorem aLO (s : List UInt8) (hs : s ∈ TXS) : ∃ u,bE (some u) /\ u.length <= 4 /\ ∀ row : SV,V.Spec Tryz.prog (Gl g) 287 (apI [117,112,112,101,114] [] (.c (cM 7 [tL (S s)])) (row)) [] (oN (S u)) [] := by
 simp only [TXS,mc,List.not_mem_nil,or_false] at hs
 rcases hs with rfl | rfl | rfl | rfl | rfl | rfl | rfl | rfl | rfl | rfl | rfl
 exact ⟨[65],by unfold bE; kernel_rfl,by decide,fun row => apUp0 row⟩
 exact ⟨[66],by unfold bE; kernel_rfl,by decide,fun row => apUp1 row⟩
 exact ⟨[65],by unfold bE; kernel_rfl,by decide,fun row => apUp2 row⟩
 exact ⟨[65,49],by unfold bE; kernel_rfl,by decide,fun row => apUp3 row⟩
 exact ⟨[49,50,45,88],by unfold bE; kernel_rfl,by decide,fun row => apUp4 row⟩
 exact ⟨[],by unfold bE; kernel_rfl,by decide,fun row => apUp5 row⟩
 exact ⟨[72,73,71,72],by unfold bE; kernel_rfl,by decide,fun row => apUp6 row⟩
 exact ⟨[88,49],by unfold bE; kernel_rfl,by decide,fun row => apUp7 row⟩
 exact ⟨[45],by unfold bE; kernel_rfl,by decide,fun row => apUp8 row⟩
 exact ⟨[49],by unfold bE; kernel_rfl,by decide,fun row => apUp9 row⟩
 exact ⟨[49,50],by unfold bE; kernel_rfl,by decide,fun row => apUp10 row⟩
def extR (s : List UInt8) : Res := if s = [97,49] then .ok [49] else if s = [49,50,45,120] then .ok [49,50] else if s = [88,49] then .ok [49] else .bad 18
def outA : Res -> SV
 | .ok s => oN (S s)
 | .bad e => oE e
theorem tG (s : List UInt8) (hs : s ∈ rowTx \/ s = [45]) : ∀ row : SV,V.Spec Tryz.prog (Gl g) 287 (apI [101,120,116,114,97,99,116] [92,100,43,35,49] (.c (cM 7 [tL (S s)])) (row)) [] (outA (extR s)) [] := by
 simp only [rowTx,mc,List.not_mem_nil,or_false] at hs
 rcases hs with (rfl | rfl | rfl | rfl | rfl | rfl | rfl | rfl) | rfl
 exact fun row => apEx0 row
 exact fun row => apEx1 row
 exact fun row => apEx2 row
 exact fun row => apEx3 row
 exact fun row => apEx4 row
 exact fun row => apEx5 row
 exact fun row => apEx6 row
 exact fun row => apEx7 row
 exact fun row => apEx8 row
theorem tJ {x : List Int} {row : D} {r : Res} (hr : aQJ r) (hx : EvS g x row r) (hs : V.Spec Tryz.prog (Gl g) 286 [.agg g0C,.c (cM 1 (intsD (3 :: x)))] [] (y20 [[.sl 1 (intsD x)]]) []) : ∃ r,ResS r /\ EvS g (3 :: x) row r := by
 rcases hr with ⟨s,hm,rfl⟩ | rfl
 obtain ⟨u,h1,h2,h3⟩ := aLO (g := g) s hm
 exact ⟨.ok u,.inl ⟨u,h1,h2,rfl⟩,sV (ev3_TT (intsD x) row (.sl 1 (intsD x)) (S s) (S u) ⟨h3 _,hx,hs⟩)⟩
 exact ⟨.bad 16,.inr rfl,ev3_16E (intsD x) row (.sl 1 (intsD x)) 16 ⟨apUpE16 _,jW,hx,hs⟩⟩
theorem aOY {x : List Int} {row : D} (hx : EvS g x row (.bad 18)) (hs : V.Spec Tryz.prog (Gl g) 286 [.agg g0C,.c (cM 1 (intsD (3 :: x)))] [] (y20 [[.sl 1 (intsD x)]]) []) : EvS g (3 :: x) row (.bad 18) := ev3_18E (intsD x) row (.sl 1 (intsD x)) 18 ⟨apUpE18 _,z1,hx,hs⟩
theorem ev64_ok (a b : Tv) (ha : Cok a) (hb : Cok b) : ∃ r,(aQJ r \/ r = .bad 18) /\ EvS g [6,4] (.sl 7 [TvD a,TvD b]) r := by
 have hf := qY (g := g) a b ha.ok hb.ok
 rcases ha with rfl | ⟨s,hs,rfl⟩
 have h4 : EvS g [4] (.sl 7 [TvD none,TvD b]) (.bad 16) := ev4E [] _ 16 ⟨aPH (TvD b) hf,xX⟩
 exact ⟨.bad 16,.inl (.inr rfl),ev6_16E (intsD [4]) _ (.sl 1 (intsD [4])) 16 ⟨apExE16 _,jW,h4,xW⟩⟩
 have h4 : EvS g [4] (.sl 7 [TvD (some s),TvD b]) (.ok s) := ev4T [] _ (S s) ⟨yQ (aPG (S s) (TvD b) hf),xX⟩
 have hx := tG (g := g) s (.inl hs) (.c (cM 7 [TvD (some s),TvD b]))
 have hc : (∃ u,u ∈ TXS /\ extR s = .ok u) \/ extR s = .bad 18 := by
  unfold extR
  split
  exact .inl ⟨_,by decide,rfl⟩
  split
  exact .inl ⟨_,by decide,rfl⟩
  split
  exact .inl ⟨_,by decide,rfl⟩
  exact .inr rfl
 rcases hc with ⟨u,hu,he⟩ | he
 rw [he] at hx
 exact ⟨.ok u,.inl (.inl ⟨u,hu,rfl⟩),sV (ev6_TT (intsD [4]) _ (.sl 1 (intsD [4])) (S s) (S u) ⟨hx,h4,xW⟩)⟩
 rw [he] at hx
 exact ⟨.bad 18,.inr rfl,aOX (intsD [4]) _ (.sl 1 (intsD [4])) (S s) 18 ⟨hx,h4,xW⟩⟩
theorem z6 (row : D) : EvS g [6,5] row (.bad 18) := by
 have h5 : EvS g [5] row (.ok [45]) := ev5T [] row (S [45]) ⟨sV (aP6 (.c (.d row))),aME⟩
 exact aOX (intsD [5]) _ (.sl 1 (intsD [5])) (S [45]) 18 ⟨tG [45] (.inr rfl) _,h5,split65⟩
theorem txt_app {s t : List UInt8} (hs : bE (some s)) (ht : bE (some t)) (h1 : s.length <= 4) (h2 : t.length <= 4) : bE (some (s ++ t)) := by
 unfold bE cR at *
 simp only [tvS,bIQ,decide_eq_true_eq,aH] at *
 refine ⟨?_,by simp; omega⟩
 have e : ∀ l : List UInt8,bs (S l) = l := fun l => by simp [bs,S]
 rw [e] at *
 rw [List.all_append,hs.1,ht.1]; rfl
theorem fJ {x y : List Int} {row : D} {r1 r2 : Res} (hr1 : aQJ r1 \/ r1 = .bad 18) (hx : EvS g x row r1) (hr2 : ResS r2) (hy : EvS g y row r2) (hs : V.Spec Tryz.prog (Gl g) 286 [.agg g0C,.c (cM 1 (intsD (2 :: (x ++ y))))] [] (y20 [[.sl 1 (intsD x)],[.sl 1 (intsD y)]]) []) : ∃ r,ResT r /\ EvS g (2 :: (x ++ y)) row r := by
 rcases hr1 with (⟨s,hm,rfl⟩ | rfl) | rfl
 obtain ⟨hsk,hsl⟩ := aGH s hm
 rcases hr2 with ⟨t,ht,htl,rfl⟩ | rfl
 refine ⟨.ok (s ++ t),.inl ⟨_,txt_app hsk ht hsl htl,rfl⟩,?_⟩
 have := coX (g := g) (.c (.d row)) (S s) (S t) ⟨by rw [aH,aH]; unfold Go.maxLen; omega,decide_eq_false (by rw [aH,aH]; omega),by rw [aH,aH]; unfold Go.Eng.inR; omega,gW t ht,gW s hsk⟩
 have h := sV (aOZ (intsD (x ++ y)) row (.sl 1 (intsD x)) (.sl 1 (intsD y)) (S s) (S t) (S s ++ S t) ⟨this,hy,hx,hs⟩)
 rw [bZ] at h
 exact h
 exact ⟨.bad 16,.inr (.inl rfl),aKY (intsD (x ++ y)) row (.sl 1 (intsD x)) (.sl 1 (intsD y)) (S s) 16 ⟨coF16 _ (S s) (gW s hsk),jW,hy,hx,hs⟩⟩
 rcases hr2 with ⟨t,ht,htl,rfl⟩ | rfl
 exact ⟨.bad 16,.inr (.inl rfl),aK0 (intsD (x ++ y)) row (.sl 1 (intsD x)) (.sl 1 (intsD y)) (S t) 16 ⟨coE16 _ _,hy,jW,hx,hs⟩⟩
 exact ⟨.bad 16,.inr (.inl rfl),aF8 (intsD (x ++ y)) row (.sl 1 (intsD x)) (.sl 1 (intsD y)) 16 ⟨coE16 _ _,jW,hy,jW,hx,hs⟩⟩
 rcases hr2 with ⟨t,ht,htl,rfl⟩ | rfl
 exact ⟨.bad 18,.inr (.inr rfl),aKZ (intsD (x ++ y)) row (.sl 1 (intsD x)) (.sl 1 (intsD y)) (S t) 18 ⟨coE18 _ _,hy,z1,hx,hs⟩⟩
 exact ⟨.bad 18,.inr (.inr rfl),aF7 (intsD (x ++ y)) row (.sl 1 (intsD x)) (.sl 1 (intsD y)) 18 ⟨coE18 _ _,jW,hy,z1,hx,hs⟩⟩
theorem evT_ok (a b : Tv) (ha : Cok a) (hb : Cok b) (p : List Int) (hp : p ∈ progs) : ∃ r,ResT r /\ EvS g p (.sl 7 [TvD a,TvD b]) r := by
 obtain ⟨r0,h0,e0⟩ := aO1 (g := g) a b ha hb
 obtain ⟨r1,h1,e1⟩ := aO0 (g := g) a b ha hb
 obtain ⟨r4,h4,e4⟩ := ev4_ok (g := g) a b ha hb
 obtain ⟨r5,h5,e5⟩ := ev5_ok (g := g) (.sl 7 [TvD a,TvD b])
 obtain ⟨r64,h64,e64⟩ := ev64_ok (g := g) a b ha hb
 obtain ⟨r34,h34,e34⟩ := tJ h4 e4 aGR
 obtain ⟨r35,h35,e35⟩ := tJ h5 e5 aGQ
 simp only [progs,mc,List.not_mem_nil,or_false] at hp
 rcases hp with rfl | rfl | rfl | rfl | rfl | rfl | rfl | rfl | rfl | rfl | rfl | rfl | rfl | rfl | rfl | rfl | rfl | rfl
 obtain ⟨r,h1,h2⟩ := aO1 (g := g) a b ha hb; exact ⟨r,h1.t,h2⟩
 obtain ⟨r,h1,h2⟩ := aO0 (g := g) a b ha hb; exact ⟨r,h1.t,h2⟩
 obtain ⟨r,h1,h2⟩ := tJ h4 e4 aGR; exact ⟨r,h1.t,h2⟩
 obtain ⟨r,h1,h2⟩ := tJ h5 e5 aGQ; exact ⟨r,h1.t,h2⟩
 exact fJ (x := [4]) (y := [0]) (.inl h4) e4 h0 e0 aMJ
 exact fJ (x := [4]) (y := [1]) (.inl h4) e4 h1 e1 aMI
 exact fJ (x := [5]) (y := [0]) (.inl h5) e5 h0 e0 aMH
 exact fJ (x := [5]) (y := [1]) (.inl h5) e5 h1 e1 aMG
 rcases h64 with h64 | rfl
 obtain ⟨r,h1,h2⟩ := tJ h64 e64 aBK; exact ⟨r,h1.t,h2⟩
 exact ⟨_,.inr (.inr rfl),aOY e64 aBK⟩
 exact ⟨_,.inr (.inr rfl),aOY (z6 _) aMF⟩
 exact fJ (x := [4]) (y := [3,4]) (.inl h4) e4 h34 e34 aJB
 exact fJ (x := [4]) (y := [3,5]) (.inl h4) e4 h35 e35 aJA
 exact fJ (x := [5]) (y := [3,4]) (.inl h5) e5 h34 e34 aI9
 exact fJ (x := [5]) (y := [3,5]) (.inl h5) e5 h35 e35 aI8
 exact fJ (x := [6,4]) (y := [0]) h64 e64 h0 e0 aI7
 exact fJ (x := [6,4]) (y := [1]) h64 e64 h1 e1 aI6
 exact fJ (x := [6,5]) (y := [0]) (.inr rfl) (z6 _) h0 e0 aI5
 exact fJ (x := [6,5]) (y := [1]) (.inr rfl) (z6 _) h1 e1 aI4
theorem xT (p : List Int) (hp : p ∈ progs) : V.Spec Tryz.prog (Gl g) 209 [.agg g0C,.c (cM 1 (intsD p))] [] (y21) [] := by
 simp only [progs,mc,List.not_mem_nil,or_false] at hp
 rcases hp with rfl | rfl | rfl | rfl | rfl | rfl | rfl | rfl | rfl | rfl | rfl | rfl | rfl | rfl | rfl | rfl | rfl | rfl
 exact symb0
 exact symb1
 exact symb34
 exact symb35
 exact symb240
 exact symb241
 exact symb250
 exact symb251
 exact symb364
 exact symb365
 exact aL9
 exact aL8
 exact aL7
 exact aL6
 exact aL5
 exact aL4
 exact aL3
 exact aL2
theorem aAH (p : List Int) (hp : p ∈ progs) : V.Spec Tryz.prog (Gl g) 210 [.c (cM 1 (intsD p))] [] (.c (cB true)) [] := by
 simp only [progs,mc,List.not_mem_nil,or_false] at hp
 rcases hp with rfl | rfl | rfl | rfl | rfl | rfl | rfl | rfl | rfl | rfl | rfl | rfl | rfl | rfl | rfl | rfl | rfl | rfl
 exact clos0
 exact clos1
 exact clos34
 exact clos35
 exact clos240
 exact clos241
 exact clos250
 exact clos251
 exact clos364
 exact clos365
 exact aPP
 exact aPO
 exact aPN
 exact aPM
 exact aPL
 exact aPK
 exact aPJ
 exact aPI
theorem pick_ok (n : Int) : ∃ p,p ∈ progs /\ V.Spec Tryz.prog (Gl g) 86 [.agg g0C,.c (cI n)] [] (.c (cM 1 (intsD p))) [] := by
 have hb := cX n (m := 18) (by decide)
 have hm := c6 (g := g) n 18 (by decide) (by decide)
 have hv : (mdV n 18).toNat < progs.length := by have : progs.length = 18 := rfl; omega
 have he : (progs.map fun p => [D.sl 1 (intsD p)])[(mdV n 18).toNat]? = some [.sl 1 (intsD (progs[(mdV n 18).toNat]))] := by rw [List.getElem?_map,ge hv]; rfl
 have hp : progs[(mdV n 18).toNat] ∈ progs := List.getElem_mem hv
 revert he hp
 generalize progs[(mdV n 18).toNat] = p
 intro he hp
 refine ⟨p,hp,?_⟩
 simp only [progs,mc,List.not_mem_nil,or_false] at hp
 rcases hp with rfl | rfl | rfl | rfl | rfl | rfl | rfl | rfl | rfl | rfl | rfl | rfl | rfl | rfl | rfl | rfl | rfl | rfl
 exact aNC n _ 0 hm ⟨hb.1,he⟩
 exact aNC n _ 1 hm ⟨hb.1,he⟩
 exact aNB n _ 3 4 hm ⟨hb.1,he⟩
 exact aNB n _ 3 5 hm ⟨hb.1,he⟩
 exact oX n _ 2 4 0 hm ⟨hb.1,he⟩
 exact oX n _ 2 4 1 hm ⟨hb.1,he⟩
 exact oX n _ 2 5 0 hm ⟨hb.1,he⟩
 exact oX n _ 2 5 1 hm ⟨hb.1,he⟩
 exact oX n _ 3 6 4 hm ⟨hb.1,he⟩
 exact oX n _ 3 6 5 hm ⟨hb.1,he⟩
 exact jK n _ 2 4 3 4 hm ⟨hb.1,he⟩
 exact jK n _ 2 4 3 5 hm ⟨hb.1,he⟩
 exact jK n _ 2 5 3 4 hm ⟨hb.1,he⟩
 exact jK n _ 2 5 3 5 hm ⟨hb.1,he⟩
 exact jK n _ 2 6 4 0 hm ⟨hb.1,he⟩
 exact jK n _ 2 6 4 1 hm ⟨hb.1,he⟩
 exact jK n _ 2 6 5 0 hm ⟨hb.1,he⟩
 exact jK n _ 2 6 5 1 hm ⟨hb.1,he⟩
theorem open_ok (p : List Int) (hp : p ∈ progs) (z : Int) : ∃ q : List Int,q.length <= 10 /\ (∀ x,x ∈ q -> -1 <= x /\ x <= 10) /\ V.Spec Tryz.prog (Gl g) 87 [.agg g0C,.c (cM 1 (intsD p)),.c (cI z)] [] (.c (cM 1 (intsD q))) [] := by
 simp only [progs,mc,List.not_mem_nil,or_false] at hp
 rcases hp with rfl | rfl | rfl | rfl | rfl | rfl | rfl | rfl | rfl | rfl | rfl | rfl | rfl | rfl | rfl | rfl | rfl | rfl
 have hb := cX z (m := 1) (by decide)
 have hm := c6 (g := g) z 1 (by decide) (by decide)
 have hc : mdV z 1 = 0 := by omega
 have e := hc
 rw [e] at hm; exact ⟨[-1],by decide,by decide,aKF z hm⟩
 have hb := cX z (m := 1) (by decide)
 have hm := c6 (g := g) z 1 (by decide) (by decide)
 have hc : mdV z 1 = 0 := by omega
 have e := hc
 rw [e] at hm; exact ⟨[-1],by decide,by decide,aKE z hm⟩
 have hb := cX z (m := 2) (by decide)
 have hm := c6 (g := g) z 2 (by decide) (by decide)
 have hc : mdV z 2 = 0 \/ mdV z 2 = 1 := by omega
 rcases hc with e | e
 rw [e] at hm; exact ⟨[-1],by decide,by decide,aKD z hm⟩
 rw [e] at hm; exact ⟨[3,-1],by decide,by decide,aKC z hm⟩
 have hb := cX z (m := 2) (by decide)
 have hm := c6 (g := g) z 2 (by decide) (by decide)
 have hc : mdV z 2 = 0 \/ mdV z 2 = 1 := by omega
 rcases hc with e | e
 rw [e] at hm; exact ⟨[-1],by decide,by decide,aKB z hm⟩
 rw [e] at hm; exact ⟨[3,-1],by decide,by decide,aKA z hm⟩
 have hb := cX z (m := 3) (by decide)
 have hm := c6 (g := g) z 3 (by decide) (by decide)
 have hc : mdV z 3 = 0 \/ mdV z 3 = 1 \/ mdV z 3 = 2 := by omega
 rcases hc with e | e | e
 rw [e] at hm; exact ⟨[-1],by decide,by decide,aJ9 z hm⟩
 rw [e] at hm; exact ⟨[2,-1,0],by decide,by decide,aJ8 z hm⟩
 rw [e] at hm; exact ⟨[2,4,-1],by decide,by decide,aJ7 z hm⟩
 have hb := cX z (m := 3) (by decide)
 have hm := c6 (g := g) z 3 (by decide) (by decide)
 have hc : mdV z 3 = 0 \/ mdV z 3 = 1 \/ mdV z 3 = 2 := by omega
 rcases hc with e | e | e
 rw [e] at hm; exact ⟨[-1],by decide,by decide,aJ6 z hm⟩
 rw [e] at hm; exact ⟨[2,-1,1],by decide,by decide,aJ5 z hm⟩
 rw [e] at hm; exact ⟨[2,4,-1],by decide,by decide,aJ4 z hm⟩
 have hb := cX z (m := 3) (by decide)
 have hm := c6 (g := g) z 3 (by decide) (by decide)
 have hc : mdV z 3 = 0 \/ mdV z 3 = 1 \/ mdV z 3 = 2 := by omega
 rcases hc with e | e | e
 rw [e] at hm; exact ⟨[-1],by decide,by decide,aJ3 z hm⟩
 rw [e] at hm; exact ⟨[2,-1,0],by decide,by decide,aJ2 z hm⟩
 rw [e] at hm; exact ⟨[2,5,-1],by decide,by decide,aJ1 z hm⟩
 have hb := cX z (m := 3) (by decide)
 have hm := c6 (g := g) z 3 (by decide) (by decide)
 have hc : mdV z 3 = 0 \/ mdV z 3 = 1 \/ mdV z 3 = 2 := by omega
 rcases hc with e | e | e
 rw [e] at hm; exact ⟨[-1],by decide,by decide,aJ0 z hm⟩
 rw [e] at hm; exact ⟨[2,-1,1],by decide,by decide,aJZ z hm⟩
 rw [e] at hm; exact ⟨[2,5,-1],by decide,by decide,aJY z hm⟩
 have hb := cX z (m := 3) (by decide)
 have hm := c6 (g := g) z 3 (by decide) (by decide)
 have hc : mdV z 3 = 0 \/ mdV z 3 = 1 \/ mdV z 3 = 2 := by omega
 rcases hc with e | e | e
 rw [e] at hm; exact ⟨[-1],by decide,by decide,aJX z hm⟩
 rw [e] at hm; exact ⟨[3,-1],by decide,by decide,aJW z hm⟩
 rw [e] at hm; exact ⟨[3,6,-1],by decide,by decide,aJV z hm⟩
 have hb := cX z (m := 3) (by decide)
 have hm := c6 (g := g) z 3 (by decide) (by decide)
 have hc : mdV z 3 = 0 \/ mdV z 3 = 1 \/ mdV z 3 = 2 := by omega
 rcases hc with e | e | e
 rw [e] at hm; exact ⟨[-1],by decide,by decide,aJU z hm⟩
 rw [e] at hm; exact ⟨[3,-1],by decide,by decide,aJT z hm⟩
 rw [e] at hm; exact ⟨[3,6,-1],by decide,by decide,aJS z hm⟩
 have hb := cX z (m := 4) (by decide)
 have hm := c6 (g := g) z 4 (by decide) (by decide)
 have hc : mdV z 4 = 0 \/ mdV z 4 = 1 \/ mdV z 4 = 2 \/ mdV z 4 = 3 := by omega
 rcases hc with e | e | e | e
 rw [e] at hm; exact ⟨[-1],by decide,by decide,aFB z hm⟩
 rw [e] at hm; exact ⟨[2,-1,3,4],by decide,by decide,aFA z hm⟩
 rw [e] at hm; exact ⟨[2,4,-1],by decide,by decide,aE9 z hm⟩
 rw [e] at hm; exact ⟨[2,4,3,-1],by decide,by decide,aE8 z hm⟩
 have hb := cX z (m := 4) (by decide)
 have hm := c6 (g := g) z 4 (by decide) (by decide)
 have hc : mdV z 4 = 0 \/ mdV z 4 = 1 \/ mdV z 4 = 2 \/ mdV z 4 = 3 := by omega
 rcases hc with e | e | e | e
 rw [e] at hm; exact ⟨[-1],by decide,by decide,aE7 z hm⟩
 rw [e] at hm; exact ⟨[2,-1,3,5],by decide,by decide,aE6 z hm⟩
 rw [e] at hm; exact ⟨[2,4,-1],by decide,by decide,aE5 z hm⟩
 rw [e] at hm; exact ⟨[2,4,3,-1],by decide,by decide,aE4 z hm⟩
 have hb := cX z (m := 4) (by decide)
 have hm := c6 (g := g) z 4 (by decide) (by decide)
 have hc : mdV z 4 = 0 \/ mdV z 4 = 1 \/ mdV z 4 = 2 \/ mdV z 4 = 3 := by omega
 rcases hc with e | e | e | e
 rw [e] at hm; exact ⟨[-1],by decide,by decide,aE3 z hm⟩
 rw [e] at hm; exact ⟨[2,-1,3,4],by decide,by decide,aE2 z hm⟩
 rw [e] at hm; exact ⟨[2,5,-1],by decide,by decide,aE1 z hm⟩
 rw [e] at hm; exact ⟨[2,5,3,-1],by decide,by decide,aE0 z hm⟩
 have hb := cX z (m := 4) (by decide)
 have hm := c6 (g := g) z 4 (by decide) (by decide)
 have hc : mdV z 4 = 0 \/ mdV z 4 = 1 \/ mdV z 4 = 2 \/ mdV z 4 = 3 := by omega
 rcases hc with e | e | e | e
 rw [e] at hm; exact ⟨[-1],by decide,by decide,aEZ z hm⟩
 rw [e] at hm; exact ⟨[2,-1,3,5],by decide,by decide,aEY z hm⟩
 rw [e] at hm; exact ⟨[2,5,-1],by decide,by decide,aEX z hm⟩
 rw [e] at hm; exact ⟨[2,5,3,-1],by decide,by decide,aEW z hm⟩
 have hb := cX z (m := 4) (by decide)
 have hm := c6 (g := g) z 4 (by decide) (by decide)
 have hc : mdV z 4 = 0 \/ mdV z 4 = 1 \/ mdV z 4 = 2 \/ mdV z 4 = 3 := by omega
 rcases hc with e | e | e | e
 rw [e] at hm; exact ⟨[-1],by decide,by decide,aEV z hm⟩
 rw [e] at hm; exact ⟨[2,-1,0],by decide,by decide,aEU z hm⟩
 rw [e] at hm; exact ⟨[2,6,-1,0],by decide,by decide,aET z hm⟩
 rw [e] at hm; exact ⟨[2,6,4,-1],by decide,by decide,aES z hm⟩
 have hb := cX z (m := 4) (by decide)
 have hm := c6 (g := g) z 4 (by decide) (by decide)
 have hc : mdV z 4 = 0 \/ mdV z 4 = 1 \/ mdV z 4 = 2 \/ mdV z 4 = 3 := by omega
 rcases hc with e | e | e | e
 rw [e] at hm; exact ⟨[-1],by decide,by decide,aER z hm⟩
 rw [e] at hm; exact ⟨[2,-1,1],by decide,by decide,aEQ z hm⟩
 rw [e] at hm; exact ⟨[2,6,-1,1],by decide,by decide,aEP z hm⟩
 rw [e] at hm; exact ⟨[2,6,4,-1],by decide,by decide,aEO z hm⟩
 have hb := cX z (m := 4) (by decide)
 have hm := c6 (g := g) z 4 (by decide) (by decide)
 have hc : mdV z 4 = 0 \/ mdV z 4 = 1 \/ mdV z 4 = 2 \/ mdV z 4 = 3 := by omega
 rcases hc with e | e | e | e
 rw [e] at hm; exact ⟨[-1],by decide,by decide,aEN z hm⟩
 rw [e] at hm; exact ⟨[2,-1,0],by decide,by decide,aEM z hm⟩
 rw [e] at hm; exact ⟨[2,6,-1,0],by decide,by decide,aEL z hm⟩
 rw [e] at hm; exact ⟨[2,6,5,-1],by decide,by decide,aEK z hm⟩
 have hb := cX z (m := 4) (by decide)
 have hm := c6 (g := g) z 4 (by decide) (by decide)
 have hc : mdV z 4 = 0 \/ mdV z 4 = 1 \/ mdV z 4 = 2 \/ mdV z 4 = 3 := by omega
 rcases hc with e | e | e | e
 rw [e] at hm; exact ⟨[-1],by decide,by decide,aEJ z hm⟩
 rw [e] at hm; exact ⟨[2,-1,1],by decide,by decide,aEI z hm⟩
 rw [e] at hm; exact ⟨[2,6,-1,1],by decide,by decide,aEH z hm⟩
 rw [e] at hm; exact ⟨[2,6,5,-1],by decide,by decide,aEG z hm⟩
theorem u5 (a b : Tv) (ha : Cok a) (hb : Cok b) (p : List Int) (hp : p ∈ progs) : (∃ s,bE (some s) /\ SX g 89 [.agg g0C,nT,.c (cM 1 (intsD p)),.c (cM 7 [TvD a,TvD b])] (aT (S s))) \/ SX g 89 [.agg g0C,nT,.c (cM 1 (intsD p)),.c (cM 7 [TvD a,TvD b])] (oF 16) \/ SX g 89 [.agg g0C,nT,.c (cM 1 (intsD p)),.c (cM 7 [TvD a,TvD b])] (oF 18) := by
 obtain ⟨r,hr,he⟩ := evT_ok (g := g) a b ha hb p hp
 rcases hr with ⟨s,hs,rfl⟩ | rfl | rfl
 exact .inl ⟨s,hs,aMV _ _ (S s) (evalXT _ _ (S s) ⟨he,aAH p hp,xT p hp⟩)⟩
 exact .inr (.inl (aJJ _ _ ⟨jW,aOW _ _ 16 ⟨he,aAH p hp,xT p hp⟩⟩))
 exact .inr (.inr (aJI _ _ ⟨z1,aOW _ _ 18 ⟨he,aAH p hp,xT p hp⟩⟩))
end
section
variable {g : Gv}
def fsL (g : Gv) (l : List Int) (kd a r t n q1 q2 q3 q4 q5 : Int) (ps : LD) : List Prop := [Nx g l q4 3000 n q5,SX g 86 [.agg g0C,.c (cI n)] (.c (cM 1 ps)),Nx g l 0 3 a q1,Go.Eng.inR (1 + a),Nx g l q1 5 r q2,Nx g l q2 9 t q3,Nx g l q3 5 kd q4]
def rwL (g : Gv) (l : List Int) (ps row : LD) (res : SV) (w n1 n2 n3 n4 n5 q5 q6 q7 q8 q9 q10 q11 : Int) (m : List Prop) : List Prop := SX g 90 [.agg g0C] (.c (cI 1)) :: Nx g l q10 8 w q11 :: SX g 85 [.c (.d nlD)] (nT) :: SX g 89 [.agg g0C,nT,.c (cM 1 ps),.c (cM 7 row)] (res) :: Nx g l q5 96 n1 q6 :: Nx g l q6 96 n2 q7 :: Nx g l q7 96 n3 q8 :: Nx g l q8 96 n4 q9 :: Nx g l q9 96 n5 q10 :: SX g 88 [.agg g0C,.c (cM 1 [[.i n1],[.i n2],[.i n3],[.i n4],[.i n5]])] (.c (cM 7 row)) :: m
def vaS (g : Gv) (l : List Int) (q q2 : Int) (y : ByteArray) : Prop := V.Spec Tryz.prog (Gl g) 91 [.c (.bx 0 0),.c (cI 1)] [(0,y14 (intsD l) q)] (aT y) [(0,y14 (intsD l) q2)]
def mkT (x : List (Nat × Int × Int)) (ps row : LD) (res : SV) (m : List (Ent Tryz.prog (Gl g))) : List (Ent Tryz.prog (Gl g)) := wL (tl2 x) :: aU 86 (.c (cM 1 ps)) :: aU 88 (.c (cM 7 row)) :: aU 85 (nT) :: aU 89 res :: aU 90 (.c (cI 1)) :: m
def tlX (kd a r t n n1 n2 n3 n4 n5 w q1 q2 q3 q4 q5 q6 q7 q8 q9 q10 q11 : Int) (m : List (Nat × Int × Int)) : List (Nat × Int × Int) := (108,a,q1) :: (112,r,q2) :: (115,t,q3) :: (119,kd,q4) :: (128,n,q5) :: (137,n1,q6) :: (140,n2,q7) :: (143,n3,q8) :: (146,n4,q9) :: (149,n5,q10) :: (164,w,q11) :: m
def shapes : List (List UInt8) := [[92,46,42],[92,97,42,92,46,42],[92,100,43],[92,117,42],[92,46,123,49,44,57,125]]
abbrev y23 (a0 : Int) (a1 : Int) (a2 : Int) (a3 : Int) (a4 : Int) (a5 : LD) (a6 : ByteArray) : SV := .agg [cI a0,cI a1,cI a2,cI a3,cI a4,cM 7 a5,cI 1,cS a6,cI 0,cI 0,cI 0,cM 1 [],cM 1 [],cS (S []),cS (S []),.d nlD]
def MkST (g : Gv) (kd K : Int) : Prop := ∀ (l : List Int) (id a r t n q1 q2 q3 q4 q5 : Int) (ps : LD) (w n1 n2 n3 n4 n5 q6 q7 q8 q9 q10 q11 : Int) (row : LD) (s : ByteArray),conj ((decide (w = 7) = false) :: rwL g l ps row (aT s) w n1 n2 n3 n4 n5 q5 q6 q7 q8 q9 q10 q11 (fsL g l kd a r t n q1 q2 q3 q4 q5 ps)) -> SX g 43 [.agg g0C,.c (cI id),.c (cM 1 (intsD l))] (y23 id (1 + a) r t K row s)
theorem mk0T : MkST g 0 1 := fun l id a r t n q1 q2 q3 q4 q5 ps w n1 n2 n3 n4 n5 q6 q7 q8 q9 q10 q11 row s h =>
 sX (tlO [(110,true),(176,false)]) (fun k => mkL [152] [] k) nFQ (T := mkT (tlX 0 a r t n n1 n2 n3 n4 n5 w q1 q2 q3 q4 q5 q6 q7 q8 q9 q10 q11 []) ps row (aT s) []) (by kernel_rfl) h
def MkSO (g : Gv) (kd K : Int) : Prop := ∀ (l : List Int) (id a r t n q1 q2 q3 q4 q5 : Int) (ps : LD) (w n1 n2 n3 n4 n5 q6 q7 q8 q9 q10 q11 : Int) (row : LD) (q12 : Int) (s y : ByteArray),conj (SX g 90 [.agg g0C] (.c (cI 1)) :: vaS g l q11 q12 y :: (decide (w = 7) = true) :: rwL g l ps row (aT s) w n1 n2 n3 n4 n5 q5 q6 q7 q8 q9 q10 q11 (fsL g l kd a r t n q1 q2 q3 q4 q5 ps)) -> SX g 43 [.agg g0C,.c (cI id),.c (cM 1 (intsD l))] (y23 id (1 + a) r t K row y)
theorem mk0O : MkSO g 0 1 := fun l id a r t n q1 q2 q3 q4 q5 ps w n1 n2 n3 n4 n5 q6 q7 q8 q9 q10 q11 row q12 s y h =>
 sX (tlO [(110,true),(176,true)]) (fun k => mkL [152] [] k) nFQ (T := mkT (tlX 0 a r t n n1 n2 n3 n4 n5 w q1 q2 q3 q4 q5 q6 q7 q8 q9 q10 q11 []) ps row (aT s) [eBx 91 (fun _ => some (aT y,q12))]) (by kernel_rfl) h
def aAS (g : Gv) (kd K : Int) : Prop := ∀ (l : List Int) (id a r t n q1 q2 q3 q4 q5 : Int) (ps : LD) (w n1 n2 n3 n4 n5 q6 q7 q8 q9 q10 q11 : Int) (row : LD) (q12 : Int) (y : ByteArray),conj (SX g 90 [.agg g0C] (.c (cI 1)) :: vaS g l q11 q12 y :: rwL g l ps row (oF 16) w n1 n2 n3 n4 n5 q5 q6 q7 q8 q9 q10 q11 (fsL g l kd a r t n q1 q2 q3 q4 q5 ps)) -> SX g 43 [.agg g0C,.c (cI id),.c (cM 1 (intsD l))] (y23 id (1 + a) r t K row y)
theorem mk0N16 : aAS g 0 1 := fun l id a r t n q1 q2 q3 q4 q5 ps w n1 n2 n3 n4 n5 q6 q7 q8 q9 q10 q11 row q12 y h =>
 sX (tlO [(110,true)]) (fun k => mkL [152] [] k) nFQ (T := mkT (tlX 0 a r t n n1 n2 n3 n4 n5 w q1 q2 q3 q4 q5 q6 q7 q8 q9 q10 q11 []) ps row (oF 16) [eBx 91 (fun _ => some (aT y,q12))]) (by kernel_rfl) h
def aAR (g : Gv) (kd K : Int) : Prop := ∀ (l : List Int) (id a r t n q1 q2 q3 q4 q5 : Int) (ps : LD) (w n1 n2 n3 n4 n5 q6 q7 q8 q9 q10 q11 : Int) (row : LD) (q12 : Int) (y : ByteArray),conj (SX g 90 [.agg g0C] (.c (cI 1)) :: vaS g l q11 q12 y :: rwL g l ps row (oF 18) w n1 n2 n3 n4 n5 q5 q6 q7 q8 q9 q10 q11 (fsL g l kd a r t n q1 q2 q3 q4 q5 ps)) -> SX g 43 [.agg g0C,.c (cI id),.c (cM 1 (intsD l))] (y23 id (1 + a) r t K row y)
theorem mk0N18 : aAR g 0 1 := fun l id a r t n q1 q2 q3 q4 q5 ps w n1 n2 n3 n4 n5 q6 q7 q8 q9 q10 q11 row q12 y h =>
 sX (tlO [(110,true)]) (fun k => mkL [152] [] k) nFQ (T := mkT (tlX 0 a r t n n1 n2 n3 n4 n5 w q1 q2 q3 q4 q5 q6 q7 q8 q9 q10 q11 []) ps row (oF 18) [eBx 91 (fun _ => some (aT y,q12))]) (by kernel_rfl) h
theorem mk1T : MkST g 1 1 := fun l id a r t n q1 q2 q3 q4 q5 ps w n1 n2 n3 n4 n5 q6 q7 q8 q9 q10 q11 row s h =>
 sX (tlO [(110,true),(176,false)]) (fun k => mkL [152] [] k) nFQ (T := mkT (tlX 1 a r t n n1 n2 n3 n4 n5 w q1 q2 q3 q4 q5 q6 q7 q8 q9 q10 q11 []) ps row (aT s) []) (by kernel_rfl) h
theorem mk1O : MkSO g 1 1 := fun l id a r t n q1 q2 q3 q4 q5 ps w n1 n2 n3 n4 n5 q6 q7 q8 q9 q10 q11 row q12 s y h =>
 sX (tlO [(110,true),(176,true)]) (fun k => mkL [152] [] k) nFQ (T := mkT (tlX 1 a r t n n1 n2 n3 n4 n5 w q1 q2 q3 q4 q5 q6 q7 q8 q9 q10 q11 []) ps row (aT s) [eBx 91 (fun _ => some (aT y,q12))]) (by kernel_rfl) h
theorem mk1N16 : aAS g 1 1 := fun l id a r t n q1 q2 q3 q4 q5 ps w n1 n2 n3 n4 n5 q6 q7 q8 q9 q10 q11 row q12 y h =>
 sX (tlO [(110,true)]) (fun k => mkL [152] [] k) nFQ (T := mkT (tlX 1 a r t n n1 n2 n3 n4 n5 w q1 q2 q3 q4 q5 q6 q7 q8 q9 q10 q11 []) ps row (oF 16) [eBx 91 (fun _ => some (aT y,q12))]) (by kernel_rfl) h
theorem mk1N18 : aAR g 1 1 := fun l id a r t n q1 q2 q3 q4 q5 ps w n1 n2 n3 n4 n5 q6 q7 q8 q9 q10 q11 row q12 y h =>
 sX (tlO [(110,true)]) (fun k => mkL [152] [] k) nFQ (T := mkT (tlX 1 a r t n n1 n2 n3 n4 n5 w q1 q2 q3 q4 q5 q6 q7 q8 q9 q10 q11 []) ps row (oF 18) [eBx 91 (fun _ => some (aT y,q12))]) (by kernel_rfl) h
abbrev y24 (a0 : Int) (a1 : Int) (a2 : Int) (a3 : Int) (a4 : LD) (a5 : ByteArray) : SV := .agg [cI a0,cI a1,cI a2,cI a3,cI 3,cM 7 a4,cI 0,cS (S []),cI 0,cI 0,cI 0,.d nlD,.d nlD,cS (S [105,115]),cS a5,.d nlD]
theorem mk2T0 (l : List Int) (id a r t n q1 q2 q3 q4 q5 : Int) (ps : LD) (w n1 n2 n3 n4 n5 q6 q7 q8 q9 q10 q11 : Int) (row : LD) (s : ByteArray) (u q13 : Int) (x : ByteArray) (h : conj ((decide (u = 0) = true) :: Nx g l q11 4 u q13 :: SX g 92 [aT s] (.c (cS x)) :: (decide (w = 7) = false) :: rwL g l ps row (aT s) w n1 n2 n3 n4 n5 q5 q6 q7 q8 q9 q10 q11 (fsL g l 2 a r t n q1 q2 q3 q4 q5 ps))) : SX g 43 [.agg g0C,.c (cI id),.c (cM 1 (intsD l))] (y24 id (1 + a) r t row x) :=
 sX (tlO [(110,true),(176,false),(197,true)]) (fun k => mkL [152] [] k) nFQ (T := mkT (tlX 2 a r t n n1 n2 n3 n4 n5 w q1 q2 q3 q4 q5 q6 q7 q8 q9 q10 q11 [(194,u,q13)]) ps row (aT s) [aU 92 (.c (cS x))]) (by kernel_rfl) h
abbrev y25 (a0 : Int) (a1 : Int) (a2 : Int) (a3 : Int) (a4 : LD) (a5 : ByteArray) : SV := .agg [cI a0,cI a1,cI a2,cI a3,cI 3,cM 7 a4,cI 0,cS (S []),cI 0,cI 0,cI 0,.d nlD,.d nlD,cS (S [115,104,97,112,101]),cS a5,.d nlD]
theorem mk2T1 (l : List Int) (id a r t n q1 q2 q3 q4 q5 : Int) (ps : LD) (w n1 n2 n3 n4 n5 q6 q7 q8 q9 q10 q11 : Int) (row : LD) (s : ByteArray) (u q13 : Int) (x : ByteArray) (v q14 : Int) (x2 : ByteArray) (h : conj (Nx g l q13 5 v q14 :: (0 <= v /\ (shapes.map fun t => [D.s (S t)])[v.toNat]? = some [.s x2]) :: (decide (u = 0) = false) :: Nx g l q11 4 u q13 :: SX g 92 [aT s] (.c (cS x)) :: (decide (w = 7) = false) :: rwL g l ps row (aT s) w n1 n2 n3 n4 n5 q5 q6 q7 q8 q9 q10 q11 (fsL g l 2 a r t n q1 q2 q3 q4 q5 ps))) : SX g 43 [.agg g0C,.c (cI id),.c (cM 1 (intsD l))] (y25 id (1 + a) r t row x2) :=
 sX (tlO [(110,true),(176,false),(197,false),(207,true)]) (fun k => mkL [152] [] k) (tlH [(207,[.s x2])]) (T := mkT (tlX 2 a r t n n1 n2 n3 n4 n5 w q1 q2 q3 q4 q5 q6 q7 q8 q9 q10 q11 [(194,u,q13),(205,v,q14)]) ps row (aT s) [aU 92 (.c (cS x))]) (by kernel_rfl) h
theorem mk2O0 (l : List Int) (id a r t n q1 q2 q3 q4 q5 : Int) (ps : LD) (w n1 n2 n3 n4 n5 q6 q7 q8 q9 q10 q11 : Int) (row : LD) (q12 : Int) (s y : ByteArray) (u q13 : Int) (x : ByteArray) (h : conj ((decide (u = 0) = true) :: Nx g l q12 4 u q13 :: SX g 92 [aT y] (.c (cS x)) :: SX g 90 [.agg g0C] (.c (cI 1)) :: vaS g l q11 q12 y :: (decide (w = 7) = true) :: rwL g l ps row (aT s) w n1 n2 n3 n4 n5 q5 q6 q7 q8 q9 q10 q11 (fsL g l 2 a r t n q1 q2 q3 q4 q5 ps))) : SX g 43 [.agg g0C,.c (cI id),.c (cM 1 (intsD l))] (y24 id (1 + a) r t row x) :=
 sX (tlO [(110,true),(176,true),(203,true)]) (fun k => mkL [152] [] k) nFQ (T := mkT (tlX 2 a r t n n1 n2 n3 n4 n5 w q1 q2 q3 q4 q5 q6 q7 q8 q9 q10 q11 [(200,u,q13)]) ps row (aT s) [eBx 91 (fun _ => some (aT y,q12)),aU 92 (.c (cS x))]) (by kernel_rfl) h
theorem mk2O1 (l : List Int) (id a r t n q1 q2 q3 q4 q5 : Int) (ps : LD) (w n1 n2 n3 n4 n5 q6 q7 q8 q9 q10 q11 : Int) (row : LD) (q12 : Int) (s y : ByteArray) (u q13 : Int) (x : ByteArray) (v q14 : Int) (x2 : ByteArray) (h : conj (Nx g l q13 5 v q14 :: (0 <= v /\ (shapes.map fun t => [D.s (S t)])[v.toNat]? = some [.s x2]) :: (decide (u = 0) = false) :: Nx g l q12 4 u q13 :: SX g 92 [aT y] (.c (cS x)) :: SX g 90 [.agg g0C] (.c (cI 1)) :: vaS g l q11 q12 y :: (decide (w = 7) = true) :: rwL g l ps row (aT s) w n1 n2 n3 n4 n5 q5 q6 q7 q8 q9 q10 q11 (fsL g l 2 a r t n q1 q2 q3 q4 q5 ps))) : SX g 43 [.agg g0C,.c (cI id),.c (cM 1 (intsD l))] (y25 id (1 + a) r t row x2) :=
 sX (tlO [(110,true),(176,true),(203,false),(213,true)]) (fun k => mkL [152] [] k) (tlH [(213,[.s x2])]) (T := mkT (tlX 2 a r t n n1 n2 n3 n4 n5 w q1 q2 q3 q4 q5 q6 q7 q8 q9 q10 q11 [(200,u,q13),(211,v,q14)]) ps row (aT s) [eBx 91 (fun _ => some (aT y,q12)),aU 92 (.c (cS x))]) (by kernel_rfl) h
theorem mk2N160 (l : List Int) (id a r t n q1 q2 q3 q4 q5 : Int) (ps : LD) (w n1 n2 n3 n4 n5 q6 q7 q8 q9 q10 q11 : Int) (row : LD) (q12 : Int) (y : ByteArray) (u q13 : Int) (x : ByteArray) (h : conj ((decide (u = 0) = true) :: Nx g l q12 4 u q13 :: SX g 92 [aT y] (.c (cS x)) :: SX g 90 [.agg g0C] (.c (cI 1)) :: vaS g l q11 q12 y :: rwL g l ps row (oF 16) w n1 n2 n3 n4 n5 q5 q6 q7 q8 q9 q10 q11 (fsL g l 2 a r t n q1 q2 q3 q4 q5 ps))) : SX g 43 [.agg g0C,.c (cI id),.c (cM 1 (intsD l))] (y24 id (1 + a) r t row x) :=
 sX (tlO [(110,true),(202,true)]) (fun k => mkL [152] [] k) nFQ (T := mkT (tlX 2 a r t n n1 n2 n3 n4 n5 w q1 q2 q3 q4 q5 q6 q7 q8 q9 q10 q11 [(199,u,q13)]) ps row (oF 16) [eBx 91 (fun _ => some (aT y,q12)),aU 92 (.c (cS x))]) (by kernel_rfl) h
theorem mk2N161 (l : List Int) (id a r t n q1 q2 q3 q4 q5 : Int) (ps : LD) (w n1 n2 n3 n4 n5 q6 q7 q8 q9 q10 q11 : Int) (row : LD) (q12 : Int) (y : ByteArray) (u q13 : Int) (x : ByteArray) (v q14 : Int) (x2 : ByteArray) (h : conj (Nx g l q13 5 v q14 :: (0 <= v /\ (shapes.map fun t => [D.s (S t)])[v.toNat]? = some [.s x2]) :: (decide (u = 0) = false) :: Nx g l q12 4 u q13 :: SX g 92 [aT y] (.c (cS x)) :: SX g 90 [.agg g0C] (.c (cI 1)) :: vaS g l q11 q12 y :: rwL g l ps row (oF 16) w n1 n2 n3 n4 n5 q5 q6 q7 q8 q9 q10 q11 (fsL g l 2 a r t n q1 q2 q3 q4 q5 ps))) : SX g 43 [.agg g0C,.c (cI id),.c (cM 1 (intsD l))] (y25 id (1 + a) r t row x2) :=
 sX (tlO [(110,true),(202,false),(212,true)]) (fun k => mkL [152] [] k) (tlH [(212,[.s x2])]) (T := mkT (tlX 2 a r t n n1 n2 n3 n4 n5 w q1 q2 q3 q4 q5 q6 q7 q8 q9 q10 q11 [(199,u,q13),(210,v,q14)]) ps row (oF 16) [eBx 91 (fun _ => some (aT y,q12)),aU 92 (.c (cS x))]) (by kernel_rfl) h
theorem mk2N180 (l : List Int) (id a r t n q1 q2 q3 q4 q5 : Int) (ps : LD) (w n1 n2 n3 n4 n5 q6 q7 q8 q9 q10 q11 : Int) (row : LD) (q12 : Int) (y : ByteArray) (u q13 : Int) (x : ByteArray) (h : conj ((decide (u = 0) = true) :: Nx g l q12 4 u q13 :: SX g 92 [aT y] (.c (cS x)) :: SX g 90 [.agg g0C] (.c (cI 1)) :: vaS g l q11 q12 y :: rwL g l ps row (oF 18) w n1 n2 n3 n4 n5 q5 q6 q7 q8 q9 q10 q11 (fsL g l 2 a r t n q1 q2 q3 q4 q5 ps))) : SX g 43 [.agg g0C,.c (cI id),.c (cM 1 (intsD l))] (y24 id (1 + a) r t row x) :=
 sX (tlO [(110,true),(202,true)]) (fun k => mkL [152] [] k) nFQ (T := mkT (tlX 2 a r t n n1 n2 n3 n4 n5 w q1 q2 q3 q4 q5 q6 q7 q8 q9 q10 q11 [(199,u,q13)]) ps row (oF 18) [eBx 91 (fun _ => some (aT y,q12)),aU 92 (.c (cS x))]) (by kernel_rfl) h
theorem mk2N181 (l : List Int) (id a r t n q1 q2 q3 q4 q5 : Int) (ps : LD) (w n1 n2 n3 n4 n5 q6 q7 q8 q9 q10 q11 : Int) (row : LD) (q12 : Int) (y : ByteArray) (u q13 : Int) (x : ByteArray) (v q14 : Int) (x2 : ByteArray) (h : conj (Nx g l q13 5 v q14 :: (0 <= v /\ (shapes.map fun t => [D.s (S t)])[v.toNat]? = some [.s x2]) :: (decide (u = 0) = false) :: Nx g l q12 4 u q13 :: SX g 92 [aT y] (.c (cS x)) :: SX g 90 [.agg g0C] (.c (cI 1)) :: vaS g l q11 q12 y :: rwL g l ps row (oF 18) w n1 n2 n3 n4 n5 q5 q6 q7 q8 q9 q10 q11 (fsL g l 2 a r t n q1 q2 q3 q4 q5 ps))) : SX g 43 [.agg g0C,.c (cI id),.c (cM 1 (intsD l))] (y25 id (1 + a) r t row x2) :=
 sX (tlO [(110,true),(202,false),(212,true)]) (fun k => mkL [152] [] k) (tlH [(212,[.s x2])]) (T := mkT (tlX 2 a r t n n1 n2 n3 n4 n5 w q1 q2 q3 q4 q5 q6 q7 q8 q9 q10 q11 [(199,u,q13),(210,v,q14)]) ps row (oF 18) [eBx 91 (fun _ => some (aT y,q12)),aU 92 (.c (cS x))]) (by kernel_rfl) h
theorem mk3T : MkST g 3 2 := fun l id a r t n q1 q2 q3 q4 q5 ps w n1 n2 n3 n4 n5 q6 q7 q8 q9 q10 q11 row s h =>
 sX (tlO [(110,true),(176,false)]) (fun k => mkL [152] [] k) nFQ (T := mkT (tlX 3 a r t n n1 n2 n3 n4 n5 w q1 q2 q3 q4 q5 q6 q7 q8 q9 q10 q11 []) ps row (aT s) []) (by kernel_rfl) h
theorem mk3O : MkSO g 3 2 := fun l id a r t n q1 q2 q3 q4 q5 ps w n1 n2 n3 n4 n5 q6 q7 q8 q9 q10 q11 row q12 s y h =>
 sX (tlO [(110,true),(176,true)]) (fun k => mkL [152] [] k) nFQ (T := mkT (tlX 3 a r t n n1 n2 n3 n4 n5 w q1 q2 q3 q4 q5 q6 q7 q8 q9 q10 q11 []) ps row (aT s) [eBx 91 (fun _ => some (aT y,q12))]) (by kernel_rfl) h
theorem mk3N16 : aAS g 3 2 := fun l id a r t n q1 q2 q3 q4 q5 ps w n1 n2 n3 n4 n5 q6 q7 q8 q9 q10 q11 row q12 y h =>
 sX (tlO [(110,true)]) (fun k => mkL [152] [] k) nFQ (T := mkT (tlX 3 a r t n n1 n2 n3 n4 n5 w q1 q2 q3 q4 q5 q6 q7 q8 q9 q10 q11 []) ps row (oF 16) [eBx 91 (fun _ => some (aT y,q12))]) (by kernel_rfl) h
theorem mk3N18 : aAR g 3 2 := fun l id a r t n q1 q2 q3 q4 q5 ps w n1 n2 n3 n4 n5 q6 q7 q8 q9 q10 q11 row q12 y h =>
 sX (tlO [(110,true)]) (fun k => mkL [152] [] k) nFQ (T := mkT (tlX 3 a r t n n1 n2 n3 n4 n5 w q1 q2 q3 q4 q5 q6 q7 q8 q9 q10 q11 []) ps row (oF 18) [eBx 91 (fun _ => some (aT y,q12))]) (by kernel_rfl) h
theorem mk4 (l : List Int) (id a r t n q1 q2 q3 q4 q5 : Int) (ps : LD) (z q6 : Int) (os : LD) (h : conj (Nx g l q5 20 z q6 :: SX g 87 [.agg g0C,.c (cM 1 ps),.c (cI z)] (.c (cM 1 os)) :: fsL g l 4 a r t n q1 q2 q3 q4 q5 ps)) : SX g 43 [.agg g0C,.c (cI id),.c (cM 1 (intsD l))] (.agg [cI id,cI (1 + a),cI r,cI t,cI 4,.d nlD,cI 0,cS (S []),cI 0,cI 0,cI 0,.d nlD,.d nlD,cS (S []),cS (S []),cM 1 os]) :=
 sX (tlO [(110,true)]) nFQ nFQ (T := [wL (tl2 [(108,a,q1),(112,r,q2),(115,t,q3),(119,4,q4),(128,n,q5),(138,z,q6)]),aU 86 (.c (cM 1 ps)),aU 87 (.c (cM 1 os))]) (by kernel_rfl) h
end
section
open Go.Eng (u8)
variable {g : Gv}
theorem d4  : SX g 90 [.agg g0C] (.c (cI 1)) :=
 kS1 []
theorem vH {l : List UInt8} (h : l.all dP = true) (hl : l.length <= 200) : bE (some l) := by
 have e : bs (S l) = l := by simp [bs,S]
 simp only [bE,tvS,cR,bIQ,decide_eq_true_eq,aH,e]
 exact ⟨h,by omega⟩
theorem aNL (l : List Int) (k : Int) : dP (u8 (32 + nxV l k 95)) = true := by
 have := c8 l k (n := 95) (by decide)
 simp only [dP,u8,bIQ,decide_eq_true_eq,UInt8.toNat_ofNat']
 omega
theorem aIG (l : List Int) : ∀ (n : Nat) (k : Int),(chM l n k).1.all dP = true
 | 0,k => rfl
 | n + 1,k => by simp only [chM,List.all_cons,aNL,aIG l n,Bool.and_true]
theorem aDR : ∀ i,i < 15 -> (wordsL.getD i []).all dP = true /\ (wordsL.getD i []).length <= 200 := by decide
theorem uP (l : List Int) (k : Int) : bE (some (txM l k).1) := by
 unfold txM; split
 have := c8 l k (n := 18) (by decide)
 have h := aDR (nxV l k 18).toNat (by omega)
 exact vH h.1 h.2
 exact vH (aIG l _ _) (by rw [aPR]; have := txN_bd l k; omega)
theorem val_ok (l : List Int) (k : Int) (h : NumOk l k) : V.Spec Tryz.prog (Gl g) 91 [.c (.bx 0 0),.c (cI 1)] [(0,y14 (intsD l) k)] (aT (S (txM l k).1)) [(0,.box 162 [cM 1 (intsD l),.d (.i (txM l k).2)])] := by
 exact dZ (l := [.i 1,.s (S (txM l k).1),.i 0,.i 0,.i 0,nlD,nlD]) (val1_ok l k h) (vU _)
theorem l9 (s : List UInt8) (h : bE (some s)) : ∃ x : List UInt8,x.length <= 500 /\ V.Spec Tryz.prog (Gl g) 92 [aT (S s)] [] (.c (cS (S x))) [] := by
 have hl : s.length <= 200 := fA h
 refine ⟨aED s,?_,textX (S s) (S (aED s)) ⟨vB s (by omega),gW s h⟩⟩
 have := pI s
 unfold aED
 simp
 omega
theorem nI {a : Int} {n : Int} (h0 : 0 <= a) (h1 : a < n) (hn : n <= 1000000) : Go.Eng.inR (1 + a) := by unfold Go.Eng.inR; omega
theorem iU : ∀ t,t ∈ shapes -> t.length <= 500 := by decide
def aAT (g : Gv) (l : List Int) (id : Int) : Prop := ∃ it : It,ItOk it /\ it.id = id /\ V.Spec Tryz.prog (Gl g) 43 [.agg g0C,.c (cI id),.c (cM 1 (intsD l))] [] (.agg ((ItD it).map .d)) []
theorem bX {n : Int} (h0 : 0 <= n) (h1 : n < 100000) : nOk n := ⟨by omega,by omega⟩
theorem made4 (l : List Int) (id a r t n q1 q2 q3 q4 q5 : Int) (hid : nOk id) (ha : 0 <= a /\ a < 3) (hr : 0 <= r /\ r < 5) (ht : 0 <= t /\ t < 9) (x1 : Nx g l 0 3 a q1) (x2 : Nx g l q1 5 r q2) (x3 : Nx g l q2 9 t q3) (x4 : Nx g l q3 5 4 q4) (x5 : Nx g l q4 3000 n q5) (h5 : NumOk l q5) (p : List Int) (hp : p ∈ progs) (hk : V.Spec Tryz.prog (Gl g) 86 [.agg g0C,.c (cI n)] [] (.c (cM 1 (intsD p))) []) : aAT g l id := by
 obtain ⟨q,hq,hm,ho⟩ := open_ok (g := g) p hp (nxV l q5 20)
 refine ⟨⟨id,1 + a,r,t,4,[],none,[],[],q⟩,⟨hid,bX (by show 0 <= 1 + a; omega) (by show 1 + a < _; omega),bX hr.1 (by show r < _; omega),bX ht.1 (by show t < _; omega),bX (n := 4) (by decide) (by decide),zl _,(fun v hv => by cases hv),eY,zl _,zl _,(by show q.length <= 1000; omega),(fun y hy => ⟨by have := hm y hy; omega,by have := hm y hy; omega⟩)⟩,rfl,?_⟩
 exact dZ (l := [.i id,.i (1 + a),.i r,.i t,.i 4,nlD,.i 0,.s (S []),.i 0,.i 0,.i 0,nlD,nlD,.s (S []),.s (S []),.sl 1 (intsD q)]) (mk4 _ _ _ _ _ _ _ _ _ _ _ _ _ _ _ ⟨cJ l q5 20 h5 (by decide),ho,x5,hk,x1,nI ha.1 ha.2 (by decide),x2,x3,x4⟩) (.cons (.refl _) (.cons (.refl _) (.cons (.refl _) (.cons (.refl _) (.cons (.refl _) (.cons (.nil 7) (.cons (.refl _) (.cons (.refl _) (.cons (.refl _) (.cons (.refl _) (.cons (.refl _) (.cons (.nil 1) (.cons (.nil 1) (.cons (.refl _) (.cons (.refl _) (.cons (.refl _) (.nil)))))))))))))))))
def k10 (l : List Int) (q5 : Int) : Int := nxK l (nxK l (nxK l (nxK l (nxK l q5 96) 96) 96) 96) 96
def k11 (l : List Int) (q5 : Int) : Int := nxK l (k10 l q5) 8
def vT (l : List Int) (q5 : Int) : List UInt8 := (txM l (k11 l q5)).1
theorem aNW {kd K : Int} (hK : nOk K) (mT : MkST g kd K) (mO : MkSO g kd K) (mN16 : aAS g kd K) (mN18 : aAR g kd K) (l : List Int) (id a r t n q1 q2 q3 q4 q5 : Int) (hid : nOk id) (ha : 0 <= a /\ a < 3) (hr : 0 <= r /\ r < 5) (ht : 0 <= t /\ t < 9) (x1 : Nx g l 0 3 a q1) (x2 : Nx g l q1 5 r q2) (x3 : Nx g l q2 9 t q3) (x4 : Nx g l q3 5 kd q4) (x5 : Nx g l q4 3000 n q5) (h5 : NumOk l q5) (p : List Int) (hp : p ∈ progs) (hk : V.Spec Tryz.prog (Gl g) 86 [.agg g0C,.c (cI n)] [] (.c (cM 1 (intsD p))) []) : aAT g l id := by
 have n6 := h5.next 96
 have n7 := n6.next 96
 have n8 := n7.next 96
 have n9 := n8.next 96
 have n10 := n9.next 96
 have n11 := n10.next 8
 obtain ⟨a',b',ca,cb,hrow⟩ := aMT (g := g) [nxV l q5 96,nxV l (nxK l q5 96) 96,nxV l (nxK l (nxK l q5 96) 96) 96,nxV l (nxK l (nxK l (nxK l q5 96) 96) 96) 96,nxV l (nxK l (nxK l (nxK l (nxK l q5 96) 96) 96) 96) 96] ⟨Int.le_refl _,by simp,by simp⟩
 have y1 := cJ (g := g) l _ 96 h5 (by decide)
 have y2 := cJ (g := g) l _ 96 n6 (by decide)
 have y3 := cJ (g := g) l _ 96 n7 (by decide)
 have y4 := cJ (g := g) l _ 96 n8 (by decide)
 have y5 := cJ (g := g) l _ 96 n9 (by decide)
 have y6 := cJ (g := g) l _ 8 n10 (by decide)
 have v11 := val_ok (g := g) l _ n11
 have vr := uP l (k11 l q5)
 have cells : ∀ v,v ∈ [a',b'] -> bE v := by
  intro v hv
  simp only [mc,List.not_mem_nil,or_false] at hv
  rcases hv with rfl | rfl
  ·exact ca.ok
  ·exact cb.ok
 rcases u5 (g := g) a' b' ca cb p hp with ⟨s,hs,hres⟩ | hres | hres
 ·by_cases c : nxV l (k10 l q5) 8 = 7
  ·refine ⟨⟨id,1 + a,r,t,K,[a',b'],some (vT l q5),[],[],[]⟩,⟨hid,bX (by show 0 <= 1 + a; omega) (by show 1 + a < _; omega),bX hr.1 (by show r < _; omega),bX ht.1 (by show t < _; omega),hK,(by show (2 : Nat) <= 8; omega),cells,vr,zl _,zl _,zl _,(fun y hy => by cases hy)⟩,rfl,?_⟩
   exact dZ (l := [.i id,.i (1 + a),.i r,.i t,.i K,.sl 7 [TvD a',TvD b'],.i 1,.s (S (vT l q5)),.i 0,.i 0,.i 0,.sl 1 [],.sl 1 [],.s (S []),.s (S []),nlD]) (mO _ _ _ _ _ _ _ _ _ _ _ _ _ _ _ _ _ _ _ _ _ _ _ _ _ _ _ _ ⟨d4,v11,decide_eq_true c,d4,y6,iJ,hres,y1,y2,y3,y4,y5,hrow,x5,hk,x1,nI ha.1 ha.2 (by decide),x2,x3,x4⟩) (.cons (.refl _) (.cons (.refl _) (.cons (.refl _) (.cons (.refl _) (.cons (.refl _) (.cons (.refl _) (.cons (.refl _) (.cons (.refl _) (.cons (.refl _) (.cons (.refl _) (.cons (.refl _) (.cons (.refl _) (.cons (.refl _) (.cons (.refl _) (.cons (.refl _) (.cons (.nil 1) (.nil)))))))))))))))))
  ·refine ⟨⟨id,1 + a,r,t,K,[a',b'],some s,[],[],[]⟩,⟨hid,bX (by show 0 <= 1 + a; omega) (by show 1 + a < _; omega),bX hr.1 (by show r < _; omega),bX ht.1 (by show t < _; omega),hK,(by show (2 : Nat) <= 8; omega),cells,hs,zl _,zl _,zl _,(fun y hy => by cases hy)⟩,rfl,?_⟩
   exact dZ (l := [.i id,.i (1 + a),.i r,.i t,.i K,.sl 7 [TvD a',TvD b'],.i 1,.s (S s),.i 0,.i 0,.i 0,.sl 1 [],.sl 1 [],.s (S []),.s (S []),nlD]) (mT _ _ _ _ _ _ _ _ _ _ _ _ _ _ _ _ _ _ _ _ _ _ _ _ _ _ ⟨decide_eq_false c,d4,y6,iJ,hres,y1,y2,y3,y4,y5,hrow,x5,hk,x1,nI ha.1 ha.2 (by decide),x2,x3,x4⟩) (.cons (.refl _) (.cons (.refl _) (.cons (.refl _) (.cons (.refl _) (.cons (.refl _) (.cons (.refl _) (.cons (.refl _) (.cons (.refl _) (.cons (.refl _) (.cons (.refl _) (.cons (.refl _) (.cons (.refl _) (.cons (.refl _) (.cons (.refl _) (.cons (.refl _) (.cons (.nil 1) (.nil)))))))))))))))))
 ·refine ⟨⟨id,1 + a,r,t,K,[a',b'],some (vT l q5),[],[],[]⟩,⟨hid,bX (by show 0 <= 1 + a; omega) (by show 1 + a < _; omega),bX hr.1 (by show r < _; omega),bX ht.1 (by show t < _; omega),hK,(by show (2 : Nat) <= 8; omega),cells,vr,zl _,zl _,zl _,(fun y hy => by cases hy)⟩,rfl,?_⟩
  exact dZ (l := [.i id,.i (1 + a),.i r,.i t,.i K,.sl 7 [TvD a',TvD b'],.i 1,.s (S (vT l q5)),.i 0,.i 0,.i 0,.sl 1 [],.sl 1 [],.s (S []),.s (S []),nlD]) (mN16 _ _ _ _ _ _ _ _ _ _ _ _ _ _ _ _ _ _ _ _ _ _ _ _ _ _ _ ⟨d4,v11,d4,y6,iJ,hres,y1,y2,y3,y4,y5,hrow,x5,hk,x1,nI ha.1 ha.2 (by decide),x2,x3,x4⟩) (.cons (.refl _) (.cons (.refl _) (.cons (.refl _) (.cons (.refl _) (.cons (.refl _) (.cons (.refl _) (.cons (.refl _) (.cons (.refl _) (.cons (.refl _) (.cons (.refl _) (.cons (.refl _) (.cons (.refl _) (.cons (.refl _) (.cons (.refl _) (.cons (.refl _) (.cons (.nil 1) (.nil)))))))))))))))))
 ·refine ⟨⟨id,1 + a,r,t,K,[a',b'],some (vT l q5),[],[],[]⟩,⟨hid,bX (by show 0 <= 1 + a; omega) (by show 1 + a < _; omega),bX hr.1 (by show r < _; omega),bX ht.1 (by show t < _; omega),hK,(by show (2 : Nat) <= 8; omega),cells,vr,zl _,zl _,zl _,(fun y hy => by cases hy)⟩,rfl,?_⟩
  exact dZ (l := [.i id,.i (1 + a),.i r,.i t,.i K,.sl 7 [TvD a',TvD b'],.i 1,.s (S (vT l q5)),.i 0,.i 0,.i 0,.sl 1 [],.sl 1 [],.s (S []),.s (S []),nlD]) (mN18 _ _ _ _ _ _ _ _ _ _ _ _ _ _ _ _ _ _ _ _ _ _ _ _ _ _ _ ⟨d4,v11,d4,y6,iJ,hres,y1,y2,y3,y4,y5,hrow,x5,hk,x1,nI ha.1 ha.2 (by decide),x2,x3,x4⟩) (.cons (.refl _) (.cons (.refl _) (.cons (.refl _) (.cons (.refl _) (.cons (.refl _) (.cons (.refl _) (.cons (.refl _) (.cons (.refl _) (.cons (.refl _) (.cons (.refl _) (.cons (.refl _) (.cons (.refl _) (.cons (.refl _) (.cons (.refl _) (.cons (.refl _) (.cons (.nil 1) (.nil)))))))))))))))))
theorem made2 (l : List Int) (id a r t n q1 q2 q3 q4 q5 : Int) (hid : nOk id) (ha : 0 <= a /\ a < 3) (hr : 0 <= r /\ r < 5) (ht : 0 <= t /\ t < 9) (x1 : Nx g l 0 3 a q1) (x2 : Nx g l q1 5 r q2) (x3 : Nx g l q2 9 t q3) (x4 : Nx g l q3 5 2 q4) (x5 : Nx g l q4 3000 n q5) (h5 : NumOk l q5) (p : List Int) (hp : p ∈ progs) (hk : V.Spec Tryz.prog (Gl g) 86 [.agg g0C,.c (cI n)] [] (.c (cM 1 (intsD p))) []) : aAT g l id := by
 have n6 := h5.next 96
 have n7 := n6.next 96
 have n8 := n7.next 96
 have n9 := n8.next 96
 have n10 := n9.next 96
 have n11 := n10.next 8
 obtain ⟨a',b',ca,cb,hrow⟩ := aMT (g := g) [nxV l q5 96,nxV l (nxK l q5 96) 96,nxV l (nxK l (nxK l q5 96) 96) 96,nxV l (nxK l (nxK l (nxK l q5 96) 96) 96) 96,nxV l (nxK l (nxK l (nxK l (nxK l q5 96) 96) 96) 96) 96] ⟨Int.le_refl _,by simp,by simp⟩
 have y1 := cJ (g := g) l _ 96 h5 (by decide)
 have y2 := cJ (g := g) l _ 96 n6 (by decide)
 have y3 := cJ (g := g) l _ 96 n7 (by decide)
 have y4 := cJ (g := g) l _ 96 n8 (by decide)
 have y5 := cJ (g := g) l _ 96 n9 (by decide)
 have y6 := cJ (g := g) l _ 8 n10 (by decide)
 have v11 := val_ok (g := g) l _ n11
 have vr := uP l (k11 l q5)
 have cells : ∀ v,v ∈ [a',b'] -> bE v := by
  intro v hv
  simp only [mc,List.not_mem_nil,or_false] at hv
  rcases hv with rfl | rfl
  ·exact ca.ok
  ·exact cb.ok
 rcases u5 (g := g) a' b' ca cb p hp with ⟨s,hs,hres⟩ | hres | hres
 ·by_cases c : nxV l (k10 l q5) 8 = 7
  ·obtain ⟨x,hxl,hx⟩ := l9 (g := g) _ vr
   have u1 := cJ (g := g) l _ 4 (oA n11) (by decide)
   by_cases cu : nxV l (txM l (k11 l q5)).2 4 = 0
   ·refine ⟨⟨id,1 + a,r,t,3,[a',b'],none,[105,115],x,[]⟩,⟨hid,bX (by show 0 <= 1 + a; omega) (by show 1 + a < _; omega),bX hr.1 (by show r < _; omega),bX ht.1 (by show t < _; omega),bX (n := 3) (by decide) (by decide),(by show (2 : Nat) <= 8; omega),cells,eY,(by show (2 : Nat) <= 500; omega),hxl,zl _,(fun y hy => by cases hy)⟩,rfl,?_⟩
    exact dZ (l := [.i id,.i (1 + a),.i r,.i t,.i 3,.sl 7 [TvD a',TvD b'],.i 0,.s (S []),.i 0,.i 0,.i 0,nlD,nlD,.s (S [105,115]),.s (S x),nlD]) (mk2O0 _ _ _ _ _ _ _ _ _ _ _ _ _ _ _ _ _ _ _ _ _ _ _ _ _ _ _ _ _ _ _ ⟨decide_eq_true cu,u1,hx,d4,v11,decide_eq_true c,d4,y6,iJ,hres,y1,y2,y3,y4,y5,hrow,x5,hk,x1,nI ha.1 ha.2 (by decide),x2,x3,x4⟩) (.cons (.refl _) (.cons (.refl _) (.cons (.refl _) (.cons (.refl _) (.cons (.refl _) (.cons (.refl _) (.cons (.refl _) (.cons (.refl _) (.cons (.refl _) (.cons (.refl _) (.cons (.refl _) (.cons (.nil 1) (.cons (.nil 1) (.cons (.refl _) (.cons (.refl _) (.cons (.nil 1) (.nil)))))))))))))))))
   ·have bs := c8 l (nxK l (txM l (k11 l q5)).2 4) (n := 5) (by decide)
    obtain ⟨sh2,hm2,he2⟩ := pD shapes _ bs.1 bs.2
    have u2 := cJ (g := g) l _ 5 (NumOk.next (oA n11) 4) (by decide)
    refine ⟨⟨id,1 + a,r,t,3,[a',b'],none,[115,104,97,112,101],sh2,[]⟩,⟨hid,bX (by show 0 <= 1 + a; omega) (by show 1 + a < _; omega),bX hr.1 (by show r < _; omega),bX ht.1 (by show t < _; omega),bX (n := 3) (by decide) (by decide),(by show (2 : Nat) <= 8; omega),cells,eY,(by show (5 : Nat) <= 500; omega),iU sh2 hm2,zl _,(fun y hy => by cases hy)⟩,rfl,?_⟩
    exact dZ (l := [.i id,.i (1 + a),.i r,.i t,.i 3,.sl 7 [TvD a',TvD b'],.i 0,.s (S []),.i 0,.i 0,.i 0,nlD,nlD,.s (S [115,104,97,112,101]),.s (S sh2),nlD]) (mk2O1 _ _ _ _ _ _ _ _ _ _ _ _ _ _ _ _ _ _ _ _ _ _ _ _ _ _ _ _ _ _ _ _ _ _ ⟨u2,⟨bs.1,he2⟩,decide_eq_false cu,u1,hx,d4,v11,decide_eq_true c,d4,y6,iJ,hres,y1,y2,y3,y4,y5,hrow,x5,hk,x1,nI ha.1 ha.2 (by decide),x2,x3,x4⟩) (.cons (.refl _) (.cons (.refl _) (.cons (.refl _) (.cons (.refl _) (.cons (.refl _) (.cons (.refl _) (.cons (.refl _) (.cons (.refl _) (.cons (.refl _) (.cons (.refl _) (.cons (.refl _) (.cons (.nil 1) (.cons (.nil 1) (.cons (.refl _) (.cons (.refl _) (.cons (.nil 1) (.nil)))))))))))))))))
  ·obtain ⟨x,hxl,hx⟩ := l9 (g := g) s hs
   have u1 := cJ (g := g) l _ 4 n11 (by decide)
   by_cases cu : nxV l (k11 l q5) 4 = 0
   ·refine ⟨⟨id,1 + a,r,t,3,[a',b'],none,[105,115],x,[]⟩,⟨hid,bX (by show 0 <= 1 + a; omega) (by show 1 + a < _; omega),bX hr.1 (by show r < _; omega),bX ht.1 (by show t < _; omega),bX (n := 3) (by decide) (by decide),(by show (2 : Nat) <= 8; omega),cells,eY,(by show (2 : Nat) <= 500; omega),hxl,zl _,(fun y hy => by cases hy)⟩,rfl,?_⟩
    exact dZ (l := [.i id,.i (1 + a),.i r,.i t,.i 3,.sl 7 [TvD a',TvD b'],.i 0,.s (S []),.i 0,.i 0,.i 0,nlD,nlD,.s (S [105,115]),.s (S x),nlD]) (mk2T0 _ _ _ _ _ _ _ _ _ _ _ _ _ _ _ _ _ _ _ _ _ _ _ _ _ _ _ _ _ ⟨decide_eq_true cu,u1,hx,decide_eq_false c,d4,y6,iJ,hres,y1,y2,y3,y4,y5,hrow,x5,hk,x1,nI ha.1 ha.2 (by decide),x2,x3,x4⟩) (.cons (.refl _) (.cons (.refl _) (.cons (.refl _) (.cons (.refl _) (.cons (.refl _) (.cons (.refl _) (.cons (.refl _) (.cons (.refl _) (.cons (.refl _) (.cons (.refl _) (.cons (.refl _) (.cons (.nil 1) (.cons (.nil 1) (.cons (.refl _) (.cons (.refl _) (.cons (.nil 1) (.nil)))))))))))))))))
   ·have bs := c8 l (nxK l (k11 l q5) 4) (n := 5) (by decide)
    obtain ⟨sh2,hm2,he2⟩ := pD shapes _ bs.1 bs.2
    have u2 := cJ (g := g) l _ 5 (NumOk.next n11 4) (by decide)
    refine ⟨⟨id,1 + a,r,t,3,[a',b'],none,[115,104,97,112,101],sh2,[]⟩,⟨hid,bX (by show 0 <= 1 + a; omega) (by show 1 + a < _; omega),bX hr.1 (by show r < _; omega),bX ht.1 (by show t < _; omega),bX (n := 3) (by decide) (by decide),(by show (2 : Nat) <= 8; omega),cells,eY,(by show (5 : Nat) <= 500; omega),iU sh2 hm2,zl _,(fun y hy => by cases hy)⟩,rfl,?_⟩
    exact dZ (l := [.i id,.i (1 + a),.i r,.i t,.i 3,.sl 7 [TvD a',TvD b'],.i 0,.s (S []),.i 0,.i 0,.i 0,nlD,nlD,.s (S [115,104,97,112,101]),.s (S sh2),nlD]) (mk2T1 _ _ _ _ _ _ _ _ _ _ _ _ _ _ _ _ _ _ _ _ _ _ _ _ _ _ _ _ _ _ _ _ ⟨u2,⟨bs.1,he2⟩,decide_eq_false cu,u1,hx,decide_eq_false c,d4,y6,iJ,hres,y1,y2,y3,y4,y5,hrow,x5,hk,x1,nI ha.1 ha.2 (by decide),x2,x3,x4⟩) (.cons (.refl _) (.cons (.refl _) (.cons (.refl _) (.cons (.refl _) (.cons (.refl _) (.cons (.refl _) (.cons (.refl _) (.cons (.refl _) (.cons (.refl _) (.cons (.refl _) (.cons (.refl _) (.cons (.nil 1) (.cons (.nil 1) (.cons (.refl _) (.cons (.refl _) (.cons (.nil 1) (.nil)))))))))))))))))
 ·obtain ⟨x,hxl,hx⟩ := l9 (g := g) _ vr
  have u1 := cJ (g := g) l _ 4 (oA n11) (by decide)
  by_cases cu : nxV l (txM l (k11 l q5)).2 4 = 0
  ·refine ⟨⟨id,1 + a,r,t,3,[a',b'],none,[105,115],x,[]⟩,⟨hid,bX (by show 0 <= 1 + a; omega) (by show 1 + a < _; omega),bX hr.1 (by show r < _; omega),bX ht.1 (by show t < _; omega),bX (n := 3) (by decide) (by decide),(by show (2 : Nat) <= 8; omega),cells,eY,(by show (2 : Nat) <= 500; omega),hxl,zl _,(fun y hy => by cases hy)⟩,rfl,?_⟩
   exact dZ (l := [.i id,.i (1 + a),.i r,.i t,.i 3,.sl 7 [TvD a',TvD b'],.i 0,.s (S []),.i 0,.i 0,.i 0,nlD,nlD,.s (S [105,115]),.s (S x),nlD]) (mk2N160 _ _ _ _ _ _ _ _ _ _ _ _ _ _ _ _ _ _ _ _ _ _ _ _ _ _ _ _ _ _ ⟨decide_eq_true cu,u1,hx,d4,v11,d4,y6,iJ,hres,y1,y2,y3,y4,y5,hrow,x5,hk,x1,nI ha.1 ha.2 (by decide),x2,x3,x4⟩) (.cons (.refl _) (.cons (.refl _) (.cons (.refl _) (.cons (.refl _) (.cons (.refl _) (.cons (.refl _) (.cons (.refl _) (.cons (.refl _) (.cons (.refl _) (.cons (.refl _) (.cons (.refl _) (.cons (.nil 1) (.cons (.nil 1) (.cons (.refl _) (.cons (.refl _) (.cons (.nil 1) (.nil)))))))))))))))))
  ·have bs := c8 l (nxK l (txM l (k11 l q5)).2 4) (n := 5) (by decide)
   obtain ⟨sh2,hm2,he2⟩ := pD shapes _ bs.1 bs.2
   have u2 := cJ (g := g) l _ 5 (NumOk.next (oA n11) 4) (by decide)
   refine ⟨⟨id,1 + a,r,t,3,[a',b'],none,[115,104,97,112,101],sh2,[]⟩,⟨hid,bX (by show 0 <= 1 + a; omega) (by show 1 + a < _; omega),bX hr.1 (by show r < _; omega),bX ht.1 (by show t < _; omega),bX (n := 3) (by decide) (by decide),(by show (2 : Nat) <= 8; omega),cells,eY,(by show (5 : Nat) <= 500; omega),iU sh2 hm2,zl _,(fun y hy => by cases hy)⟩,rfl,?_⟩
   exact dZ (l := [.i id,.i (1 + a),.i r,.i t,.i 3,.sl 7 [TvD a',TvD b'],.i 0,.s (S []),.i 0,.i 0,.i 0,nlD,nlD,.s (S [115,104,97,112,101]),.s (S sh2),nlD]) (mk2N161 _ _ _ _ _ _ _ _ _ _ _ _ _ _ _ _ _ _ _ _ _ _ _ _ _ _ _ _ _ _ _ _ _ ⟨u2,⟨bs.1,he2⟩,decide_eq_false cu,u1,hx,d4,v11,d4,y6,iJ,hres,y1,y2,y3,y4,y5,hrow,x5,hk,x1,nI ha.1 ha.2 (by decide),x2,x3,x4⟩) (.cons (.refl _) (.cons (.refl _) (.cons (.refl _) (.cons (.refl _) (.cons (.refl _) (.cons (.refl _) (.cons (.refl _) (.cons (.refl _) (.cons (.refl _) (.cons (.refl _) (.cons (.refl _) (.cons (.nil 1) (.cons (.nil 1) (.cons (.refl _) (.cons (.refl _) (.cons (.nil 1) (.nil)))))))))))))))))
 ·obtain ⟨x,hxl,hx⟩ := l9 (g := g) _ vr
  have u1 := cJ (g := g) l _ 4 (oA n11) (by decide)
  by_cases cu : nxV l (txM l (k11 l q5)).2 4 = 0
  ·refine ⟨⟨id,1 + a,r,t,3,[a',b'],none,[105,115],x,[]⟩,⟨hid,bX (by show 0 <= 1 + a; omega) (by show 1 + a < _; omega),bX hr.1 (by show r < _; omega),bX ht.1 (by show t < _; omega),bX (n := 3) (by decide) (by decide),(by show (2 : Nat) <= 8; omega),cells,eY,(by show (2 : Nat) <= 500; omega),hxl,zl _,(fun y hy => by cases hy)⟩,rfl,?_⟩
   exact dZ (l := [.i id,.i (1 + a),.i r,.i t,.i 3,.sl 7 [TvD a',TvD b'],.i 0,.s (S []),.i 0,.i 0,.i 0,nlD,nlD,.s (S [105,115]),.s (S x),nlD]) (mk2N180 _ _ _ _ _ _ _ _ _ _ _ _ _ _ _ _ _ _ _ _ _ _ _ _ _ _ _ _ _ _ ⟨decide_eq_true cu,u1,hx,d4,v11,d4,y6,iJ,hres,y1,y2,y3,y4,y5,hrow,x5,hk,x1,nI ha.1 ha.2 (by decide),x2,x3,x4⟩) (.cons (.refl _) (.cons (.refl _) (.cons (.refl _) (.cons (.refl _) (.cons (.refl _) (.cons (.refl _) (.cons (.refl _) (.cons (.refl _) (.cons (.refl _) (.cons (.refl _) (.cons (.refl _) (.cons (.nil 1) (.cons (.nil 1) (.cons (.refl _) (.cons (.refl _) (.cons (.nil 1) (.nil)))))))))))))))))
  ·have bs := c8 l (nxK l (txM l (k11 l q5)).2 4) (n := 5) (by decide)
   obtain ⟨sh2,hm2,he2⟩ := pD shapes _ bs.1 bs.2
   have u2 := cJ (g := g) l _ 5 (NumOk.next (oA n11) 4) (by decide)
   refine ⟨⟨id,1 + a,r,t,3,[a',b'],none,[115,104,97,112,101],sh2,[]⟩,⟨hid,bX (by show 0 <= 1 + a; omega) (by show 1 + a < _; omega),bX hr.1 (by show r < _; omega),bX ht.1 (by show t < _; omega),bX (n := 3) (by decide) (by decide),(by show (2 : Nat) <= 8; omega),cells,eY,(by show (5 : Nat) <= 500; omega),iU sh2 hm2,zl _,(fun y hy => by cases hy)⟩,rfl,?_⟩
   exact dZ (l := [.i id,.i (1 + a),.i r,.i t,.i 3,.sl 7 [TvD a',TvD b'],.i 0,.s (S []),.i 0,.i 0,.i 0,nlD,nlD,.s (S [115,104,97,112,101]),.s (S sh2),nlD]) (mk2N181 _ _ _ _ _ _ _ _ _ _ _ _ _ _ _ _ _ _ _ _ _ _ _ _ _ _ _ _ _ _ _ _ _ ⟨u2,⟨bs.1,he2⟩,decide_eq_false cu,u1,hx,d4,v11,d4,y6,iJ,hres,y1,y2,y3,y4,y5,hrow,x5,hk,x1,nI ha.1 ha.2 (by decide),x2,x3,x4⟩) (.cons (.refl _) (.cons (.refl _) (.cons (.refl _) (.cons (.refl _) (.cons (.refl _) (.cons (.refl _) (.cons (.refl _) (.cons (.refl _) (.cons (.refl _) (.cons (.refl _) (.cons (.refl _) (.cons (.nil 1) (.cons (.nil 1) (.cons (.refl _) (.cons (.refl _) (.cons (.nil 1) (.nil)))))))))))))))))
theorem made_ok (l : List Int) (h : NumOk l 0) (id : Int) (hid : nOk id) : aAT g l id := by
 have n1 := h.next 3
 have n2 := n1.next 5
 have n3 := n2.next 9
 have n4 := n3.next 5
 have n5 := n4.next 3000
 have ba := c8 l 0 (n := 3) (by decide)
 have br := c8 l (nxK l 0 3) (n := 5) (by decide)
 have bt := c8 l (nxK l (nxK l 0 3) 5) (n := 9) (by decide)
 have bk := c8 l (nxK l (nxK l (nxK l 0 3) 5) 9) (n := 5) (by decide)
 have x1 := cJ (g := g) l 0 3 h (by decide)
 have x2 := cJ (g := g) l _ 5 n1 (by decide)
 have x3 := cJ (g := g) l _ 9 n2 (by decide)
 have x4 := cJ (g := g) l _ 5 n3 (by decide)
 have x5 := cJ (g := g) l _ 3000 n4 (by decide)
 obtain ⟨p,hp,hk⟩ := pick_ok (g := g) (nxV l (nxK l (nxK l (nxK l (nxK l 0 3) 5) 9) 5) 3000)
 have hc : nxV l (nxK l (nxK l (nxK l 0 3) 5) 9) 5 = 0 \/ nxV l (nxK l (nxK l (nxK l 0 3) 5) 9) 5 = 1 \/ nxV l (nxK l (nxK l (nxK l 0 3) 5) 9) 5 = 2 \/ nxV l (nxK l (nxK l (nxK l 0 3) 5) 9) 5 = 3 \/ nxV l (nxK l (nxK l (nxK l 0 3) 5) 9) 5 = 4 := by omega
 rcases hc with e | e | e | e | e <;> rw [e] at x4
 ·exact aNW (bX (n := 1) (by decide) (by decide)) mk0T mk0O mk0N16 mk0N18 l id _ _ _ _ _ _ _ _ _ hid ba br bt x1 x2 x3 x4 x5 n5 p hp hk
 ·exact aNW (bX (n := 1) (by decide) (by decide)) mk1T mk1O mk1N16 mk1N18 l id _ _ _ _ _ _ _ _ _ hid ba br bt x1 x2 x3 x4 x5 n5 p hp hk
 ·exact made2 l id _ _ _ _ _ _ _ _ _ hid ba br bt x1 x2 x3 x4 x5 n5 p hp hk
 ·exact aNW (bX (n := 2) (by decide) (by decide)) mk3T mk3O mk3N16 mk3N18 l id _ _ _ _ _ _ _ _ _ hid ba br bt x1 x2 x3 x4 x5 n5 p hp hk
 ·exact made4 l id _ _ _ _ _ _ _ _ _ hid ba br bt x1 x2 x3 x4 x5 n5 p hp hk
theorem l6 (what who n author : Int) (l : List Int) (h : NumOk l 0) (hau : nOk author) : ∃ it : It,ItOk it /\ it.id = 1 + mdV n 4 /\ it.author = author /\ V.Spec Tryz.prog (Gl g) 21 [.agg [cI what,cI who,cI n,cM 1 (intsD l)],.c (cI author)] [] (.agg ((ItD it).map .d)) [] := by
 have hb := cX n (m := 4) (by decide)
 obtain ⟨it,hit,hid,hs⟩ := made_ok (g := g) l h (1 + mdV n 4) (bX (by omega) (by omega))
 refine ⟨{ it with author := author },⟨hit.id,hau,hit.rank,hit.time,hit.kind,hit.len,hit.cells,hit.output,hit.prop,hit.param,hit.plen,hit.prog⟩,hid,rfl,?_⟩
 exact actX what who n author (mdV n 4) it.id it.author it.rank it.time it.kind (tvK it.output) l (aD it.input) (intsD it.program) (S (tvS it.output)) (S it.prop) (S it.param) ⟨c6 n 4 (by decide) (by decide),nI hb.1 hb.2 (by decide),hs,madeX⟩
end
end Go.Proofs.YtclaplngjmgnoaaGreatDoor
