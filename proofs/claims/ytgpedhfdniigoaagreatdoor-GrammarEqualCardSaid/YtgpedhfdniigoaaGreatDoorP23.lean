/- Part 23 of the proof. -/
import Derived.Test.YtgpedhfdniigoaaGreatDoorP22
set_option linter.all false
namespace Go.V
open Go.RowKit
def aD7 : List Oper -> List Nat -> List Nat
 | [],acc => acc
 | o :: r,acc => aD7 r (acc ++ [o.after.toList.foldl (fun s e => if Region.binds .any e then s ||| 2 ^ e.on ||| acc.getD e.on 0 else s) 0])
def bef (ops : Array Oper) : List Nat := aD7 ops.toList []
theorem tL : ∀ (l : List Oper) (acc : List Nat) (i : Nat),i < acc.length -> (aD7 l acc)[i]? = acc[i]?
 | [],acc,i,h => rfl
 | o :: r,acc,i,h => by
  simp only [aD7]
  rw [tL r _ i (by simp; omega),List.getElem?_append_left h]
theorem sY (acc : List Nat) : ∀ (es : List Edge) (s j : Nat),(es.foldl (fun s e => if Region.binds .any e then s ||| 2 ^ e.on ||| acc.getD e.on 0 else s) s).testBit j = true ->
  s.testBit j = true \/ ∃ e ∈ es,Region.binds .any e = true /\ (e.on = j \/ (acc.getD e.on 0).testBit j = true)
 | [],s,j,h => .inl h
 | e :: es,s,j,h => by
  simp only [List.foldl_cons] at h
  rcases sY acc es _ j h with h1 | ⟨e',he',h2⟩
  by_cases hb : Region.binds .any e = true
  rw [if_pos hb,Nat.testBit_or,Nat.testBit_or,Bool.or_eq_true,Bool.or_eq_true] at h1
  rcases h1 with (h1 | h1) | h1
  exact .inl h1
  rw [Nat.testBit_two_pow] at h1
  exact .inr ⟨e,by simp,hb,.inl (by simpa using h1)⟩
  exact .inr ⟨e,by simp,hb,.inr h1⟩
  rw [if_neg hb] at h1; exact .inl h1
  exact .inr ⟨e',by simp [he'],h2⟩
theorem wF : ∀ (l : List Oper) (acc : List Nat) (i : Nat),acc.length <= i -> ∀ b,(aD7 l acc)[i]? = some b -> ∃ o,l[i - acc.length]? = some o /\ ∀ j,b.testBit j = true -> ∃ e ∈ o.after,Region.binds .any e = true /\ (e.on = j \/ ∃ b',e.on < i /\ (aD7 l acc)[e.on]? = some b' /\ b'.testBit j = true)
 | [],acc,i,h,b,hb => by simp only [aD7] at hb; have := (gsQ.1 hb).1; omega
 | o :: r,acc,i,h,b,hb => by
  simp only [aD7] at hb ⊢
  by_cases hi : i = acc.length
  subst hi
  rw [tL r _ _ (by simp)] at hb
  simp only [List.getElem?_append_right (lr _),Nat.sub_self,cz,oIQ] at hb
  subst hb
  refine ⟨o,by simp,fun j hj => ?_⟩
  rcases sY acc _ _ j hj with h1 | ⟨e,he,h2,h3⟩
  simp at h1
  refine ⟨e,by simpa using he,h2,h3.imp id fun h4 => ?_⟩
  rw [gd] at h4
  cases hg : acc[e.on]? with
  | none => rw [hg] at h4; simp at h4
  | some b' =>
   have hlt := (gsQ.1 hg).1
   rw [hg] at h4
   refine ⟨b',hlt,?_,h4⟩
   rw [tL r _ _ (by simp; omega),List.getElem?_append_left hlt]
   exact hg
  obtain ⟨o',h1,h2⟩ := wF r _ i (by simp; omega) b hb
  refine ⟨o',?_,h2⟩
  have : i - acc.length = (i - (acc ++ [o.after.toList.foldl (fun s e => if Region.binds .any e then s ||| 2 ^ e.on ||| acc.getD e.on 0 else s) 0]).length) + 1 := by simp; omega
  rw [this,List.getElem?_cons_succ]
  exact h1
theorem jC {ops : Array Oper} {D : Nat -> Bool} (hD : ∀ i o,ops[i]? = some o -> D i = true -> ∀ e ∈ o.after,Region.binds .any e = true -> D e.on = true) :
  ∀ (i : Nat) (o : Oper) (b : Nat),ops[i]? = some o -> (bef ops)[i]? = some b -> (∀ e ∈ o.after,Region.binds .any e = true -> D e.on = true) -> ∀ j,b.testBit j = true -> D j = true := by
 intro i
 induction i using Nat.strongRecOn with
 | _ i ih =>
  intro o b ho hb hall j hj
  obtain ⟨o',h1,h2⟩ := wF ops.toList [] i (zl _) b hb
  simp only [lnQ,Nat.sub_zero] at h1
  have : o' = o := by
   have h1' : ops[i]? = some o' := by simpa using h1
   rw [ho] at h1'
   injection h1' with h
   exact h.symm
  subst this
  obtain ⟨e,he,hbd,h3⟩ := h2 j hj
  have hDe := hall e he hbd
  rcases h3 with h3 | ⟨b',hlt,hb',hj'⟩
  rw [<- h3]; exact hDe
  have holt : e.on < ops.size := by
   have := (Array.getElem?_eq_some_iff.1 ho).1
   omega
  exact ih e.on hlt _ b' (Array.getElem?_eq_getElem holt) hb' (fun e' he' hb' => hD e.on _ (Array.getElem?_eq_getElem holt) hDe e' he' hb') j hj'
def slots (r : Rec) : List Nat := r.path.map (·.1)
def o7 (a b : Rec) : Bool :=
 (match a.dst with
  | some t => !b.uses.contains t && b.dst != some t
  | none => true) &&
 (match b.dst with
  | some t => !a.uses.contains t
  | none => true) &&
 (keys a.upd).all (fun x => !b.touch.contains x) && (keys b.upd).all (fun x => !a.touch.contains x)
def lL (a b : Rec) : Bool := match b.dst with
 | some t => !(slots a).contains t
 | none => true
def aK5 (a : Rec) : List Rec -> Bool
 | [] => true
 | b :: r => lL a b && aK5 a r
def okT : List Rec -> Bool
 | [] => true
 | a :: r => aK5 a r && okT r
def aFG (a : Rec) (i : Nat) : List Rec -> List Nat -> Bool
 | [],_ => true
 | b :: r,m :: ms => (m.testBit i || o7 a b) && aFG a i r ms
 | _ :: _,[] => false
def okA : Nat -> List Rec -> List Nat -> Bool
 | _,[],_ => true
 | i,a :: r,_ :: ms => (keys a.upd).all (fun x => a.touch.contains x) && aFG a i r ms && okA (i + 1) r ms
 | _,_ :: _,[] => false
def fI : Nat -> List Oper -> Bool
 | _,[] => true
 | i,o :: r => o.after.toList.all (fun e => !Region.binds .any e || decide (e.on < i)) && fI (i + 1) r
theorem aC5 {a : Rec} : ∀ {l : List Rec} {j : Nat} {b : Rec},aK5 a l = true -> l[j]? = some b -> lL a b = true
 | [],j,b,_,h => by simp at h
 | x :: r,0,b,h,hj => by simp only [aK5,bIQ] at h; simp only [cz,oIQ] at hj; subst hj; exact h.1
 | x :: r,j + 1,b,h,hj => by simp only [aK5,bIQ] at h; exact aC5 h.2 (by simpa using hj)
theorem mS : ∀ {l : List Rec} {i j : Nat} {a b : Rec},okT l = true -> l[i]? = some a -> l[j]? = some b -> i < j -> lL a b = true
 | [],i,j,a,b,_,h,_,_ => by simp at h
 | x :: r,0,j + 1,a,b,h,hi,hj,_ => by
  simp only [okT,bIQ] at h
  simp only [cz,oIQ] at hi
  subst hi
  exact aC5 h.1 (by simpa using hj)
 | x :: r,i + 1,j + 1,a,b,h,hi,hj,hlt => by
  simp only [okT,bIQ] at h
  exact mS h.2 (by simpa using hi) (by simpa using hj) (by omega)
 | x :: r,i,0,a,b,_,_,_,h => by omega
theorem sL {a : Rec} {i : Nat} : ∀ {l : List Rec} {ms : List Nat} {j : Nat} {b : Rec},aFG a i l ms = true -> l[j]? = some b -> ∃ m,ms[j]? = some m /\ (m.testBit i = true \/ o7 a b = true)
 | [],ms,j,b,_,h => by simp at h
 | x :: r,[],j,b,h,hj => by simp [aFG] at h
 | x :: r,m :: ms,0,b,h,hj => by
  simp only [aFG,bIQ,Bool.or_eq_true] at h
  simp only [cz,oIQ] at hj; subst hj
  exact ⟨m,rfl,h.1⟩
 | x :: r,m :: ms,j + 1,b,h,hj => by
  simp only [aFG,bIQ] at h
  obtain ⟨m',h1,h2⟩ := sL h.2 (j := j) (by simpa using hj)
  exact ⟨m',by simpa using h1,h2⟩
theorem z1 : ∀ {l : List Rec} {ms : List Nat} {k i j : Nat} {a b : Rec},okA k l ms = true -> l[i]? = some a -> l[j]? = some b -> i < j -> ∃ m,ms[j]? = some m /\ (m.testBit (k + i) = true \/ o7 a b = true)
 | [],ms,k,i,j,a,b,_,h,_,_ => by simp at h
 | x :: r,[],k,i,j,a,b,h,_,_,_ => by simp [okA] at h
 | x :: r,m :: ms,k,0,j + 1,a,b,h,hi,hj,_ => by
  simp only [okA,bIQ] at h
  simp only [cz,oIQ] at hi
  subst hi
  obtain ⟨m',h1,h2⟩ := sL h.1.2 (j := j) (by simpa using hj)
  exact ⟨m',by simpa using h1,h2⟩
 | x :: r,m :: ms,k,i + 1,j + 1,a,b,h,hi,hj,hlt => by
  simp only [okA,bIQ] at h
  obtain ⟨m',h1,h2⟩ := z1 h.2 (i := i) (j := j) (by simpa using hi) (by simpa using hj) (by omega)
  exact ⟨m',by simpa using h1,by rw [show k + (i + 1) = k + 1 + i by omega]; exact h2⟩
 | x :: r,m :: ms,k,i,0,a,b,_,_,_,h => by omega
theorem aC6 : ∀ {l : List Rec} {ms : List Nat} {k i : Nat} {a : Rec},okA k l ms = true -> l[i]? = some a -> ∀ x ∈ keys a.upd,x ∈ a.touch
 | [],ms,k,i,a,_,h => by simp at h
 | x :: r,[],k,i,a,h,_ => by simp [okA] at h
 | x :: r,m :: ms,k,0,a,h,hi => by
  simp only [okA,bIQ] at h
  simp only [cz,oIQ] at hi
  subst hi
  intro y hy
  have := at1.1 h.1.1 y hy
  simpa using this
 | x :: r,m :: ms,k,i + 1,a,h,hi => by
  simp only [okA,bIQ] at h
  exact aC6 h.2 (by simpa using hi)
theorem j5 : ∀ {l : List Oper} {k i : Nat} {o : Oper},fI k l = true -> l[i]? = some o -> ∀ e ∈ o.after,Region.binds .any e = true -> e.on < k + i
 | [],k,i,o,_,h => by simp at h
 | x :: r,k,0,o,h,hi => by
  simp only [fI,bIQ] at h
  simp only [cz,oIQ] at hi
  subst hi
  intro e he hb
  have := at1.1 h.1 e (by simpa using he)
  simp only [hb,Bool.not_true,Bool.false_or,decide_eq_true_eq] at this
  omega
 | x :: r,k,i + 1,o,h,hi => by
  simp only [fI,bIQ] at h
  intro e he hb
  have := j5 h.2 (i := i) (by simpa using hi) e he hb
  omega
section
variable {P : Program} {fr : Fr} {n rid : Nat} {Q : Exit -> Act -> World -> Prop} {ops : Array Oper} {hs : dM}
theorem oF : ∀ (rs : List Rec) (D : Nat -> Bool) (k : Nat) (env : Env) (u : Nat) (q : Path) (sv : SV),cA rs D k env u = some (q,sv) -> env u = some (q,sv) \/ ∃ j r,rs[j]? = some r /\ D (k + j) = true /\ r.dst = some u /\ q = r.path
 | [],D,k,env,u,q,sv,h => .inl h
 | r :: rs,D,k,env,u,q,sv,h => by
  simp only [cA] at h
  rcases oF rs D (k + 1) _ u q sv h with h1 | ⟨j,r',h1,h2,h3⟩
  by_cases hD : D k = true
  rw [if_pos hD] at h1
  unfold d6 at h1
  cases ht : r.dst with
  | some t =>
   simp only [ht] at h1
   by_cases hu : u = t
   subst hu
   rw [upd_same] at h1
   simp only [oIQ,pIQ] at h1
   exact .inr ⟨0,r,rfl,hD,ht,h1.1.symm⟩
   rw [upd_ne _ _ hu] at h1; exact .inl h1
  | none => simp only [ht] at h1; exact .inl h1
  rw [if_neg hD] at h1; exact .inl h1
  exact .inr ⟨j + 1,r',by simpa using h1,by rw [show k + (j + 1) = k + 1 + j by omega]; exact h2,h3⟩
def cE (D : Nat -> Bool) (i : Nat) : Nat -> Bool := fun j => if j = i then true else D j
theorem aGQ {env : cO} {own : bR} {rs : List Rec} {env' : cO} {own' : bR} {cs : List Prop} (h : mF P fr.G n rid ops hs 0 ops.toList env own = some (rs,env',own',cs)) (hc : conj cs) (henv : ∀ u q sv,aL env u = some (q,sv) -> q = [])
  {D : Nat -> Bool} {i : Nat} {r : Rec} (hr : rs[i]? = some r) (hDi : D i = false)
  (hlow : ∀ j b,j < i -> rs[j]? = some b -> (b.dst.any (fun t => r.uses.contains t) || (keys b.upd).any (fun x => r.touch.contains x)) = true -> D j = true)
  (hhigh : ∀ j b,i < j -> rs[j]? = some b -> (b.dst.any (fun t => r.uses.contains t || r.dst == some t) || (keys b.upd).any (fun x => r.touch.contains x || (keys r.upd).contains x) || r.dst.any (fun t => (slots b).contains t)) = true -> D j = false)
  (hpath : ∀ j b,j < i -> rs[j]? = some b -> r.dst.any (fun t => (slots b).contains t) = false)
  {a : Act} {w : World} {pl : Pl} (hok : Ok fr n (cA rs D 0 (aL env)) (bW rs D 0 (lookO own)) a w pl) {K : Act -> World -> Prop}
  (hK : ∀ a' w' pl',Ok fr n (cA rs (cE D i) 0 (aL env)) (bW rs (cE D i) 0 (lookO own)) a' w' pl' -> K a' w') : fK P ops i K a w := by
 obtain ⟨h1,h2,h3,h4⟩ := gM h hc
 obtain ⟨hob,o,hint,envi,owni,ho,hrec,he,hw⟩ := h4 i r hr
 rw [Nat.zero_add] at hrec he hw
 have hoi : ops[i]? = some o := by simpa using ho
 have hDu : ∀ u ∈ r.uses,∀ j b,rs[j]? = some b -> b.dst = some u -> D (0 + j) = decide (0 + j < i) := by
  intro u hu j b hj hb
  rw [Nat.zero_add]
  rcases Nat.lt_trichotomy j i with hlt | rfl | hgt
  ·rw [decide_eq_true hlt]
   exact hlow j b hlt hj (by simp [hb,hu])
  ·rw [hDi,decide_eq_false (by omega)]
  ·rw [decide_eq_false (by omega)]
   exact hhigh j b hgt hj (by simp [hb,hu])
 refine rec_ok hrec hob hoi hok (fun u hu => ?_) (fun x hx => ?_) (fun t ht u q sv hq hne x hx hxt => ?_) (fun a' w' pl' hok' => hK a' w' pl' ?_)
 ·rw [he]
  exact dB rs _ _ 0 _ _ u rfl (hDu u hu)
 ·rw [hw]
  refine c8 rs _ _ 0 _ _ x rfl (fun j b hj hb => ?_)
  rw [Nat.zero_add]
  rcases Nat.lt_trichotomy j i with hlt | rfl | hgt
  ·rw [decide_eq_true hlt]
   exact hlow j b hlt hj (by simp only [Bool.or_eq_true,List.any_eq_true]; exact .inr ⟨x,hb,by simpa using hx⟩)
  ·rw [hDi,decide_eq_false (by omega)]
  ·rw [decide_eq_false (by omega)]
   exact hhigh j b hgt hj (by simp only [Bool.or_eq_true,List.any_eq_true]; exact .inl (.inr ⟨x,hb,.inl (by simpa using hx)⟩))
 ·rcases oF rs D 0 _ u q sv hq with h5 | ⟨j,b,h5,h6,h7,rfl⟩
  ·rw [henv u q sv h5] at hx; cases hx
  ·rw [Nat.zero_add] at h6
   have hsl : (slots b).contains t = true := by
    simp only [slots,List.contains_iff_mem,mmQ]
    exact ⟨x,hx,hxt⟩
   rcases Nat.lt_trichotomy j i with hlt | rfl | hgt
   ·have := hpath j b hlt h5
    rw [ht] at this
    simp only [Option.any_some,hsl] at this
    cases this
   ·rw [hDi] at h6; cases h6
   ·have := hhigh j b hgt h5 (by rw [ht]; simp only [Option.any_some,hsl,Bool.or_true])
    rw [this] at h6; cases h6
 ·
  have e1 : d6 (cA rs D 0 (aL env)) r = cA rs (cE D i) 0 (aL env) := by
   funext u
   by_cases hu : r.dst = some u
   ·rw [oE rs (cE D i) 0 _ u i r hr hu (by simp [cE]) (fun j b hj hb hbu => by
     rw [Nat.zero_add]
     simp only [cE,if_neg (show j ≠ i by omega)]
     exact hhigh j b hj hb (by simp [hbu,hu]))]
    simp only [d6,hu]
    exact upd_same _ _ _
   ·have hp : d6 (cA rs D 0 (aL env)) r u = cA rs D 0 (aL env) u := by
     unfold d6
     cases hd' : r.dst with
     | none => rfl
     | some t => exact upd_ne _ _ (fun e => hu (by rw [hd',e]))
    rw [hp]
    refine dB rs _ _ 0 _ _ u rfl (fun j b hj hb => ?_)
    rw [Nat.zero_add]
    have : j ≠ i := fun e => by subst e; rw [hr] at hj; injection hj with hj; rw [hj] at hu; exact hu hb
    simp [cE,this]
  have e2 : aY (bW rs D 0 (lookO own)) r.upd = bW rs (cE D i) 0 (lookO own) := by
   funext x
   by_cases hu : x ∈ keys r.upd
   ·exact (nT rs (cE D i) 0 _ _ x i r hr hu (by simp [cE]) (fun j b hj hb hbu => by
     rw [Nat.zero_add]
     simp only [cE,if_neg (show j ≠ i by omega)]
     exact hhigh j b hj hb (by simp only [Bool.or_eq_true,List.any_eq_true]; exact .inl (.inr ⟨x,hbu,.inr (by simpa using hu)⟩)))).symm
   ·rw [fO _ _ x hu]
    refine c8 rs _ _ 0 _ _ x rfl (fun j b hj hb => ?_)
    rw [Nat.zero_add]
    have : j ≠ i := fun e => by subst e; rw [hr] at hj; injection hj with hj; rw [hj] at hu; exact hu hb
    simp [cE,this]
  rw [<- e1,<- e2]
  exact hok'
end
end Go.V
