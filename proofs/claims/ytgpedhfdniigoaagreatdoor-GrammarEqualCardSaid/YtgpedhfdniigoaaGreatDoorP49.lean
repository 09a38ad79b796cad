/- Part 49 of the proof. -/
import Derived.Test.YtgpedhfdniigoaaGreatDoorP37
import Derived.Test.YtgpedhfdniigoaaGreatDoorP38
import Derived.Test.YtgpedhfdniigoaaGreatDoorP46
import Derived.Test.YtgpedhfdniigoaaGreatDoorP48
set_option linter.all false
namespace Go.Proofs.YtgpedhfdniigoaaGreatDoor
open Go.RowKit Go.V
open Go.Eng (inR byteAt u8 dD)
variable {g : Gv}
structure OkG (a : Gr) : Prop where
 sm : a.small
 cn : ∀ t,t ∈ a.cs.map (·.nm) -> t.length <= maxLen
 sn : ∀ t,t ∈ a.ss.map (·.nm) -> t.length <= maxLen
theorem RightG.ruleS {a : Gr} (h : RightG a) : ∀ r ∈ a.rs,r.op.length <= 20 /\ r.pa.length <= 60 /\ r.ar.length <= 3 := by
 intro r hr
 have := h.rk r hr
 simp only [d5,lJ,bIQ,decide_eq_true_eq,bH] at this
 obtain ⟨⟨⟨⟨h1,h2,_⟩,h3⟩,_⟩,_⟩ := this
 exact ⟨aU h1,by omega,by omega⟩
theorem RightG.okG {a : Gr} (h : RightG a) : OkG a := by
 refine ⟨⟨?_,?_,?_,?_,fun r hr => ?_⟩,fun t ht => ?_,fun t ht => ?_⟩
 have := aU h.nm; omega
 have := h.cl; omega
 have := h.sl; omega
 have := h.rl; omega
 obtain ⟨h1,h2,h3⟩ := h.ruleS r hr
 exact ⟨by omega,by omega,by omega⟩
 obtain ⟨c,hc,rfl⟩ := mmQ.1 ht
 have := aU (aAZ h c hc).1
 unfold maxLen; omega
 obtain ⟨c,hc,rfl⟩ := mmQ.1 ht
 have := aU (l5 h c hc).1
 unfold maxLen; omega
theorem zU {a : Gr} (h : OkG a) {l : List Sy} (hl : l.length <= 1000000) (hn : ∀ s ∈ l,s.nm.length <= maxLen) : OkG { a with ss := l } :=
 ⟨⟨h.sm.nm,h.sm.cs,hl,h.sm.rs,h.sm.each⟩,h.cn,fun t ht => by
  obtain ⟨s,hs,rfl⟩ := mmQ.1 ht
  exact hn s hs⟩
theorem nV {a : Gr} (h : OkG a) {l : List Rl} (hl : l.length <= 1000000) (hn : ∀ r ∈ l,r.small) : OkG { a with rs := l } :=
 ⟨⟨h.sm.nm,h.sm.cs,h.sm.ss,hl,hn⟩,h.cn,h.sn⟩
theorem aMU {a : Gr} (hR : RightG a) (hs0 : 0 < a.ss.length) (hr0 : 0 < a.rs.length) (q0 q1 q2 : Int) : OkG (cX a q0 q1 q2) := by
 have h := hR.okG
 have hnm := aU hR.nm
 have hcl := hR.cl
 have hsl := hR.sl
 have hrl := hR.rl
 have b1 := fE q1 (n := (a.ss.length : Int)) (by omega)
 have b2 := fE q1 (n := (a.rs.length : Int)) (by omega)
 have b3 := fE q2 (n := (a.ss.length : Int)) (by omega)
 have t1 := kP (l := tbN) (b := 7) (by decide) (md1 q2 4).toNat
 have t2 := kP (l := tbP) (b := 7) (by decide) (md1 q2 5).toNat
 have t3 := kP (l := tbC) (b := 7) (by decide) (md1 q1 4).toNat
 have t4 := kP (l := tbO) (b := 7) (by decide) (md1 q2 6).toNat
 have hy : ∀ k,k < a.ss.length -> (a.ss.getD k Sy.z).nm.length <= 20 := fun k hk => aU (l5 hR _ (bG hk)).1
 have hsy : ∀ s ∈ a.ss,s.nm.length <= maxLen := fun s hs => by have := aU (l5 hR s hs).1; unfold maxLen; omega
 have hx := hR.ruleS _ (bG (z := Rl.z) (k := (md1 q1 (a.rs.length : Int)).toNat) (by omega))
 have hrs : ∀ y : Rl,y.small -> ∀ r ∈ a.rs.set (md1 q1 (a.rs.length : Int)).toNat y,r.small := fun y hy r hr => (List.mem_or_eq_of_mem_set hr).elim (h.sm.each r) (fun e => by rw [e]; exact hy)
 have hss : ∀ y : Sy,y.nm.length <= maxLen -> ∀ s ∈ a.ss.set (md1 q1 (a.ss.length : Int)).toNat y,s.nm.length <= maxLen := fun y hy r hr => (List.mem_or_eq_of_mem_set hr).elim (hsy r) (fun e => by rw [e]; exact hy)
 have hyy := hy (md1 q1 (a.ss.length : Int)).toNat (by omega)
 have hyz := hy (md1 q2 (a.ss.length : Int)).toNat (by omega)
 unfold cX
 dsimp only
 split
 exact ⟨⟨by rw [la]; omega,h.sm.cs,h.sm.ss,h.sm.rs,h.sm.each⟩,h.cn,h.sn⟩
 exact ⟨⟨h.sm.nm,h.sm.cs,h.sm.ss,h.sm.rs,h.sm.each⟩,h.cn,h.sn⟩
 exact ⟨⟨h.sm.nm,h.sm.cs,h.sm.ss,h.sm.rs,h.sm.each⟩,h.cn,h.sn⟩
 refine ⟨⟨h.sm.nm,by simp only [eQ]; omega,h.sm.ss,h.sm.rs,h.sm.each⟩,fun t ht => ?_,h.sn⟩
 simp only [List.map_append,List.mem_append,mp1,List.map_nil,mc,List.not_mem_nil,or_false] at ht
 rcases ht with ht | rfl
 exact h.cn t ht
 unfold maxLen; omega
 exact zU h (by rw [List.length_set]; omega) (hss _ (by unfold maxLen; dsimp only; omega))
 exact zU h (by rw [List.length_set]; omega) (hss _ (by unfold maxLen; dsimp only; omega))
 exact zU h (by rw [List.length_set]; omega) (hss _ (by unfold maxLen; dsimp only; omega))
 exact nV h (by rw [List.length_set]; omega) (hrs _ ⟨by dsimp only; omega,by dsimp only; omega,by dsimp only; omega⟩)
 exact nV h (by rw [List.length_set]; omega) (hrs _ ⟨by dsimp only; omega,by dsimp only; omega,by dsimp only; omega⟩)
 exact nV h (by rw [List.length_set]; omega) (hrs _ ⟨by dsimp only; omega,by simp only [la]; omega,by dsimp only; omega⟩)
 exact nV h (by rw [List.length_set]; omega) (hrs _ ⟨by dsimp only; omega,by dsimp only; omega,by simp only [eQ]; omega⟩)
 refine nV h (by simp only [eQ]; omega) (fun r hr => ?_)
 rcases List.mem_append.1 hr with hr | hr
 exact h.sm.each r hr
 simp only [mc,List.not_mem_nil,or_false] at hr
 rw [hr]; exact ⟨by omega,by omega,by omega⟩
 split
 exact nV h (by rw [List.length_set]; omega) (hrs _ ⟨by dsimp only; omega,by dsimp only; omega,by simp only [List.length_set]; omega⟩)
 exact h
 refine zU h (by simp only [eQ]; omega) (fun s hs => ?_)
 rcases List.mem_append.1 hs with hs | hs
 exact hsy s hs
 simp only [mc,List.not_mem_nil,or_false] at hs
 rw [hs]; decide
 exact h
def prT (a : Gr) : List UInt8 := if bQ a = true then fR a else []
theorem qT (x y : Gr) : (!((S (prT x)).toList == (S []).toList) && (!((S (prT y)).toList == (S []).toList))) = true -> ((S (prT x)).toList == (S (prT y)).toList) = decide (x = y) := by
 intro h
 simp only [aGP,aM8,bIQ,Bool.not_eq_true',decide_eq_false_iff_not] at h ⊢
 obtain ⟨h1,h2⟩ := h
 have hx : bQ x = true := by
  by_cases h : bQ x = true
  exact h
  unfold prT at h1; rw [if_neg h] at h1; exact absurd rfl h1
 have hy : bQ y = true := by
  by_cases h : bQ y = true
  exact h
  unfold prT at h2; rw [if_neg h] at h2; exact absurd rfl h2
 have e1 : prT x = fR x := by unfold prT; rw [if_pos hx]
 have e2 : prT y = fR y := by unfold prT; rw [if_pos hy]
 rw [e1,e2]
 have : fR x = fR y ↔ x = y := ⟨aEV (right_iff.1 hx) (right_iff.1 hy),fun h => by rw [h]⟩
 simp only [this]
theorem aMH (a : Gr) (hs : a.small) : SpG g 24 [.agg (grC a)] [] (.agg (grC a)) [] := oP (oI (g := g) a hs)
def grD (a : Gr) : List D := [.s (S a.nm),.i a.ve,.sl 2 (aC a.cs),.sl 3 (aA a.ss),.sl 4 (aB a.rs),.i a.st]
def pr4 (a b c : Gr) : LD := [grD a ++ grD b,grD a ++ grD c,grD c ++ grD b,grD a ++ grD a]
theorem gB (a b c : Gr) : (pr4 a b c).length = 4 := rfl
theorem aKU (a : Gr) (hs : a.small) (hcn : ∀ t,t ∈ a.cs.map (·.nm) -> t.length <= maxLen) (hsn0 : ∀ t,t ∈ a.ss.map (·.nm) -> t.length <= maxLen) (hr : bQ a = false) :
  SpG g 13 [y1 (S a.nm) a.ve (aC a.cs) (aA a.ss) (aB a.rs) a.st] [] (.c (cS (S []))) [] := by
 refine aQ 115 Tryz.func13 fun fr hG => ?_
 refine zC hG [(1,1,kB (bQ a))] [1,0,1] (!(bQ a)) (⟨[zX 1 100 0,zS 2 (S [])],[(100,y2 (S a.nm) a.ve (aC a.cs) (aA a.ss) (aB a.rs) a.st)]⟩) (cS1 g (vH a hs hcn hsn0)) (fun hc1 => ?_) (fun hc1 => ?_)
 ·(try simp only [zq0,aC,aA,aB] at hc1)
  exact zr hG [] [] aE
 ·(try simp only [zq0,aC,aA,aB] at hc1)
  rw [hr] at hc1; simp at hc1
theorem jT (a : Gr) (h : OkG a) : SpG g 13 [.agg (grC a)] [] (.c (cS (S (prT a)))) [] := by
 unfold prT
 by_cases hr : bQ a = true
 rw [if_pos hr]; exact aKT a h.sm h.cn h.sn hr
 rw [if_neg hr]; exact aKU a h.sm h.cn h.sn (by simpa using hr)
abbrev y53 (a0 : LD) : Ob := .arr 0 54 12 a0
abbrev e14z (a0 : Int) : cO := [zB 6 false,zB 7 true,zY 36 513 0,zI 37 a0]
theorem aLP (l m : List Int) (q0 q1 q2 : Int) (a b c : Gr) (oa : OkG a) (ob : OkG b) (oc : OkG c) (ha : SpG g 11 [.c (cM 1 (intsD l))] [] (.agg (grC a)) []) (hb : SpG g 11 [.c (cM 1 (intsD m))] [] (.agg (grC b)) []) (hc : SpG g 12 [.agg (grC a),.agg [cI q0,cI q1,cI q2]] [] (.agg (grC c)) []) :
  SpG g 7 [.c (cM 1 (intsD l)),.c (cM 1 (intsD m)),.agg [cI q0,cI q1,cI q2]] [] (.c (cB true)) [] := by
 refine aQ 78 Tryz.func7 fun fr hG => ?_
 refine uZ hG aH [(1,0,kB true),(2,1,kC (y1 (S a.nm) a.ve (aC a.cs) (aA a.ss) (aB a.rs) a.st)),(2,3,kC (y1 (S b.nm) b.ve (aC b.cs) (aA b.ss) (aB b.rs) b.st)),(3,2,kC (y1 (S c.nm) c.ve (aC c.cs) (aA c.ss) (aB c.rs) c.st)),(4,11,kC (y1 (S a.nm) a.ve (aC a.cs) (aA a.ss) (aB a.rs) a.st))] [0,1,0,1,1,1,1] ((fun (zz : Nat) => match zz with | 0 => ⟨e14z ((pr4 a b c).length : Int) ++ [zI 38 0],[(513,y53 (pr4 a b c))]⟩ | 1 => ⟨e14z ((pr4 a b c).length : Int) ++ [zI 38 1],[(513,y53 (pr4 a b c))]⟩ | 2 => ⟨e14z ((pr4 a b c).length : Int) ++ [zI 38 2],[(513,y53 (pr4 a b c))]⟩ | 3 => ⟨e14z ((pr4 a b c).length : Int) ++ [zI 38 3],[(513,y53 (pr4 a b c))]⟩ | _ => ⟨e14z ((pr4 a b c).length : Int) ++ [zI 38 4],[(513,y53 (pr4 a b c))]⟩) 0) _ (by kernel_rfl) (cS2 g aJY (cS2 g ha (cS2 g hb (cS2 g hc (cS1 g (aMH a oa.sm)))))) ?_
 refine vN (σ := Nat) (fun (zz : Nat) => match zz with | k => 5 - k) (fun (zz : Nat) => match zz with | 0 => ⟨e14z ((pr4 a b c).length : Int) ++ [zI 38 0],[(513,y53 (pr4 a b c))]⟩ | 1 => ⟨e14z ((pr4 a b c).length : Int) ++ [zI 38 1],[(513,y53 (pr4 a b c))]⟩ | 2 => ⟨e14z ((pr4 a b c).length : Int) ++ [zI 38 2],[(513,y53 (pr4 a b c))]⟩ | 3 => ⟨e14z ((pr4 a b c).length : Int) ++ [zI 38 3],[(513,y53 (pr4 a b c))]⟩ | _ => ⟨e14z ((pr4 a b c).length : Int) ++ [zI 38 4],[(513,y53 (pr4 a b c))]⟩) (fun (zz : Nat) => match zz with | k => k <= 4) 0 (by kernel_rfl) ?_ ?_
 exact zl _
 rintro k hI
 rcases (by omega : k = 0 \/ k = 1 \/ k = 2 \/ k = 3 \/ k = 4) with rfl | rfl | rfl | rfl | rfl
 skip
 refine zc hG [] [0,1] (decide ((0 : Int) < ((pr4 a b c).length : Int))) aE (fun hc2 => ?_) (fun hc2 => ?_)
 skip
 refine zC hG [(6,1,.elem (grD a ++ grD b)),(7,4,kB (decide (a = b))),(7,9,kB (decide (a = b)))] [1,0,1,0,0,1,1] (!((decide (a = b)) == (decide (a = b)))) (⟨[zB 6 false,zB 7 true,zX 12 702 0,zY 36 513 0,zI 37 ((pr4 a b c).length : Int),zI 38 0],[(513,y53 (pr4 a b c)),(702,.box 54 [cS (S a.nm),cI a.ve,cM 2 (aC a.cs),cM 3 (aA a.ss),cM 4 (aB a.rs),cI a.st,cS (S b.nm),cI b.ve,cM 2 (aC b.cs),cM 3 (aA b.ss),cM 4 (aB b.rs),cI b.st])]⟩) (aD (by intros; first | omega | decide | trivial | (rw [gB]; omega) : (0 : Int) <= 0 /\ 0 < ((pr4 a b c).length : Int)) (aD (show (pr4 a b c)[0]? = some (grD a ++ grD b) from rfl) (cS2 g (eY a b) (cS1 g (mE a b oa.sm))))) (fun hc3 => ?_) (fun hc3 => ?_)
 skip
 exact absurd hc3 (by simp)
 skip
 refine zC hG [(9,2,kS (S (prT a))),(9,5,kS (S (prT b))),(10,14,kB (decide (a = b)))] [1,1,1,1,0,0,1,1] (((!((S (prT a)).toList == (S []).toList)) && (!((S (prT b)).toList == (S []).toList))) && (!(((S (prT a)).toList == (S (prT b)).toList) == (decide (a = b))))) (⟨e14z ((pr4 a b c).length : Int) ++ [zI 38 0],[(513,y53 (pr4 a b c))]⟩) (cS2 g (jT a oa) (cS2 g (jT b ob) (aG (fun (hg1 : ((!((S (prT a)).toList == (S []).toList)) && (!((S (prT b)).toList == (S []).toList))) = true) => (eY a b : SpG g _ _ _ _ _))))) (fun hc4 => ?_) (fun hc4 => ?_)
 skip
 have hpp := qT a b
 simp only [bIQ] at hc4 hpp
 have hq := hpp hc4.1
 have hn := hc4.2
 rw [hq] at hn
 simp at hn
 skip
 refine zD hG [] 1 (aG (by unfold inR; decide : inR (0 + 1))) ?_ ?_
 (try dsimp only); decide
 (try dsimp only); decide
 skip
 rw [gB] at hc2; simp at hc2
 skip
 refine zc hG [] [0,1] (decide ((1 : Int) < ((pr4 a b c).length : Int))) aE (fun hc5 => ?_) (fun hc5 => ?_)
 skip
 refine zC hG [(6,1,.elem (grD a ++ grD c)),(7,4,kB (decide (a = c))),(7,9,kB (decide (a = c)))] [1,0,1,0,0,1,1] (!((decide (a = c)) == (decide (a = c)))) (⟨[zB 6 false,zB 7 true,zX 12 702 0,zY 36 513 0,zI 37 ((pr4 a b c).length : Int),zI 38 1],[(513,y53 (pr4 a b c)),(702,.box 54 [cS (S a.nm),cI a.ve,cM 2 (aC a.cs),cM 3 (aA a.ss),cM 4 (aB a.rs),cI a.st,cS (S c.nm),cI c.ve,cM 2 (aC c.cs),cM 3 (aA c.ss),cM 4 (aB c.rs),cI c.st])]⟩) (aD (by intros; first | omega | decide | trivial | (rw [gB]; omega) : (0 : Int) <= 1 /\ 1 < ((pr4 a b c).length : Int)) (aD (show (pr4 a b c)[1]? = some (grD a ++ grD c) from rfl) (cS2 g (eY a c) (cS1 g (mE a c oa.sm))))) (fun hc6 => ?_) (fun hc6 => ?_)
 skip
 exact absurd hc6 (by simp)
 skip
 refine zC hG [(9,2,kS (S (prT a))),(9,5,kS (S (prT c))),(10,14,kB (decide (a = c)))] [1,1,1,1,0,0,1,1] (((!((S (prT a)).toList == (S []).toList)) && (!((S (prT c)).toList == (S []).toList))) && (!(((S (prT a)).toList == (S (prT c)).toList) == (decide (a = c))))) (⟨e14z ((pr4 a b c).length : Int) ++ [zI 38 1],[(513,y53 (pr4 a b c))]⟩) (cS2 g (jT a oa) (cS2 g (jT c oc) (aG (fun (hg1 : ((!((S (prT a)).toList == (S []).toList)) && (!((S (prT c)).toList == (S []).toList))) = true) => (eY a c : SpG g _ _ _ _ _))))) (fun hc7 => ?_) (fun hc7 => ?_)
 skip
 have hpp := qT a c
 simp only [bIQ] at hc7 hpp
 have hq := hpp hc7.1
 have hn := hc7.2
 rw [hq] at hn
 simp at hn
 skip
 refine zD hG [] 2 (aG (by unfold inR; decide : inR (1 + 1))) ?_ ?_
 (try dsimp only); decide
 (try dsimp only); decide
 skip
 rw [gB] at hc5; simp at hc5
 skip
 refine zc hG [] [0,1] (decide ((2 : Int) < ((pr4 a b c).length : Int))) aE (fun hc8 => ?_) (fun hc8 => ?_)
 skip
 refine zC hG [(6,1,.elem (grD c ++ grD b)),(7,4,kB (decide (c = b))),(7,9,kB (decide (c = b)))] [1,0,1,0,0,1,1] (!((decide (c = b)) == (decide (c = b)))) (⟨[zB 6 false,zB 7 true,zX 12 702 0,zY 36 513 0,zI 37 ((pr4 a b c).length : Int),zI 38 2],[(513,y53 (pr4 a b c)),(702,.box 54 [cS (S c.nm),cI c.ve,cM 2 (aC c.cs),cM 3 (aA c.ss),cM 4 (aB c.rs),cI c.st,cS (S b.nm),cI b.ve,cM 2 (aC b.cs),cM 3 (aA b.ss),cM 4 (aB b.rs),cI b.st])]⟩) (aD (by intros; first | omega | decide | trivial | (rw [gB]; omega) : (0 : Int) <= 2 /\ 2 < ((pr4 a b c).length : Int)) (aD (show (pr4 a b c)[2]? = some (grD c ++ grD b) from rfl) (cS2 g (eY c b) (cS1 g (mE c b oc.sm))))) (fun hc9 => ?_) (fun hc9 => ?_)
 skip
 exact absurd hc9 (by simp)
 skip
 refine zC hG [(9,2,kS (S (prT c))),(9,5,kS (S (prT b))),(10,14,kB (decide (c = b)))] [1,1,1,1,0,0,1,1] (((!((S (prT c)).toList == (S []).toList)) && (!((S (prT b)).toList == (S []).toList))) && (!(((S (prT c)).toList == (S (prT b)).toList) == (decide (c = b))))) (⟨e14z ((pr4 a b c).length : Int) ++ [zI 38 2],[(513,y53 (pr4 a b c))]⟩) (cS2 g (jT c oc) (cS2 g (jT b ob) (aG (fun (hg1 : ((!((S (prT c)).toList == (S []).toList)) && (!((S (prT b)).toList == (S []).toList))) = true) => (eY c b : SpG g _ _ _ _ _))))) (fun hc10 => ?_) (fun hc10 => ?_)
 skip
 have hpp := qT c b
 simp only [bIQ] at hc10 hpp
 have hq := hpp hc10.1
 have hn := hc10.2
 rw [hq] at hn
 simp at hn
 skip
 refine zD hG [] 3 (aG (by unfold inR; decide : inR (2 + 1))) ?_ ?_
 (try dsimp only); decide
 (try dsimp only); decide
 skip
 rw [gB] at hc8; simp at hc8
 skip
 refine zc hG [] [0,1] (decide ((3 : Int) < ((pr4 a b c).length : Int))) aE (fun hc11 => ?_) (fun hc11 => ?_)
 skip
 refine zC hG [(6,1,.elem (grD a ++ grD a)),(7,4,kB (decide (a = a))),(7,9,kB (decide (a = a)))] [1,0,1,0,0,1,1] (!((decide (a = a)) == (decide (a = a)))) (⟨[zB 6 false,zB 7 true,zX 12 702 0,zY 36 513 0,zI 37 ((pr4 a b c).length : Int),zI 38 3],[(513,y53 (pr4 a b c)),(702,.box 54 [cS (S a.nm),cI a.ve,cM 2 (aC a.cs),cM 3 (aA a.ss),cM 4 (aB a.rs),cI a.st,cS (S a.nm),cI a.ve,cM 2 (aC a.cs),cM 3 (aA a.ss),cM 4 (aB a.rs),cI a.st])]⟩) (aD (by intros; first | omega | decide | trivial | (rw [gB]; omega) : (0 : Int) <= 3 /\ 3 < ((pr4 a b c).length : Int)) (aD (show (pr4 a b c)[3]? = some (grD a ++ grD a) from rfl) (cS2 g (eY a a) (cS1 g (mE a a oa.sm))))) (fun hc12 => ?_) (fun hc12 => ?_)
 skip
 exact absurd hc12 (by simp)
 skip
 refine zC hG [(9,2,kS (S (prT a))),(9,5,kS (S (prT a))),(10,14,kB (decide (a = a)))] [1,1,1,1,0,0,1,1] (((!((S (prT a)).toList == (S []).toList)) && (!((S (prT a)).toList == (S []).toList))) && (!(((S (prT a)).toList == (S (prT a)).toList) == (decide (a = a))))) (⟨e14z ((pr4 a b c).length : Int) ++ [zI 38 3],[(513,y53 (pr4 a b c))]⟩) (cS2 g (jT a oa) (cS2 g (jT a oa) (aG (fun (hg1 : ((!((S (prT a)).toList == (S []).toList)) && (!((S (prT a)).toList == (S []).toList))) = true) => (eY a a : SpG g _ _ _ _ _))))) (fun hc13 => ?_) (fun hc13 => ?_)
 skip
 have hpp := qT a a
 simp only [bIQ] at hc13 hpp
 have hq := hpp hc13.1
 have hn := hc13.2
 rw [hq] at hn
 simp at hn
 skip
 refine zD hG [] 4 (aG (by unfold inR; decide : inR (3 + 1))) ?_ ?_
 (try dsimp only); decide
 (try dsimp only); decide
 skip
 rw [gB] at hc11; simp at hc11
 skip
 refine zc hG [] [0,1] (decide ((4 : Int) < ((pr4 a b c).length : Int))) aE (fun hc14 => ?_) (fun hc14 => ?_)
 skip
 rw [gB] at hc14; simp at hc14
 skip
 refine zE hG [] (.exit 0) (⟨[zB 6 false,zB 7 true],[]⟩) aE rfl ?_
 exact zr hG [] [] aE
theorem aJM (l m : List Int) (hl : NumOk l 0) (hm : NumOk m 0) (q0 q1 q2 : Int) : SpG g 7 [.c (cM 1 (intsD l)),.c (cM 1 (intsD m)),.agg [cI q0,cI q1,cI q2]] [] (.c (cB true)) [] := by
 have right : ∀ l,RightG (jD l) := fun l => by
  have h06 := lN l 0 (n := 6) (by decide)
  exact (fF l 3).1.right (base_of h06)
 have hss : 0 < (jD l).ss.length := by have := (right l).sl; omega
 have hrs : 0 < (jD l).rs.length := List.length_pos_iff.2 (fF l 3).2
 exact aLP l m q0 q1 q2 (jD l) (jD m) (cX (jD l) q0 q1 q2) (right l).okG (right m).okG (aMU (right l) hss hrs q0 q1 q2) (aG9 l hl) (aG9 m hm) (bent_ok (jD l) (right l).okG.sm hss hrs q0 q1 q2)
end Go.Proofs.YtgpedhfdniigoaaGreatDoor
