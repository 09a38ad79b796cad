/- Part 27 of the proof. -/
import Derived.Test.YtgpedhfdniigoaaGreatDoorP26
set_option linter.all false
namespace Go.V
open Go.RowKit
def jR (ij : List (Nat × Nat)) : bR -> Option bR
 | [] => some []
 | (i,o) :: r => match pG ij i,jJ ij false o,jR ij r with
  | some j,some o',some l => some ((j,o') :: l)
  | _,_,_ => none
theorem oX {ij : List (Nat × Nat)} (hj : (ij.map (·.2)).Nodup) (hi : (ij.map (·.1)).Nodup) : ∀ {l l' : bR},jR ij l = some l' -> (∀ i o,lookO l i = some o -> ∃ j o',(i,j) ∈ ij /\ jJ ij false o = some o' /\ lookO l' j = some o') /\ ∀ j o',lookO l' j = some o' -> ∃ i o,(i,j) ∈ ij /\ jJ ij false o = some o' /\ lookO l i = some o
 | [],l',h => by
  simp only [jR,oIQ] at h
  subst h
  exact ⟨fun i o h => by simp [lookO] at h,fun j o h => by simp [lookO] at h⟩
 | (i,o) :: r,l',h => by
  simp only [jR] at h
  split at h
  ·rename_i j o' l hj' ho' hl
   simp only [oIQ] at h
   subst h
   obtain ⟨h1,h2⟩ := oX hj hi hl
   have hij := qW hj'
   have uj : ∀ a b c : Nat,(a,c) ∈ ij -> (b,c) ∈ ij -> a = b := by
    intro a b c ha hb
    obtain ⟨x,hx⟩ := List.getElem?_of_mem ha
    obtain ⟨y,hy⟩ := List.getElem?_of_mem hb
    have e1 : (ij.map (·.2))[x]? = some c := by simp [hx]
    have e2 : (ij.map (·.2))[y]? = some c := by simp [hy]
    have := (List.getElem?_inj (gsQ.1 e1).1 hj).1 (e1.trans e2.symm)
    subst this
    rw [hx] at hy
    injection hy with hy
    injection hy
   have ui : ∀ a b c : Nat,(c,a) ∈ ij -> (c,b) ∈ ij -> a = b := by
    intro a b c ha hb
    obtain ⟨x,hx⟩ := List.getElem?_of_mem ha
    obtain ⟨y,hy⟩ := List.getElem?_of_mem hb
    have e1 : (ij.map (·.1))[x]? = some c := by simp [hx]
    have e2 : (ij.map (·.1))[y]? = some c := by simp [hy]
    have := (List.getElem?_inj (gsQ.1 e1).1 hi).1 (e1.trans e2.symm)
    subst this
    rw [hx] at hy
    injection hy with hy
    injection hy
   refine ⟨fun i' u hu => ?_,fun j' u' hu => ?_⟩
   ·simp only [lookO] at hu
    split at hu
    ·rename_i he
     simp only [beq_iff_eq] at he
     simp only [oIQ] at hu
     subst he; subst hu
     exact ⟨j,o',hij,ho',by simp [lookO]⟩
    ·rename_i he
     simp only [beq_iff_eq] at he
     obtain ⟨j2,u2,h3,h4,h5⟩ := h1 i' u hu
     refine ⟨j2,u2,h3,h4,?_⟩
     have : j ≠ j2 := fun e => by subst e; exact he (uj _ _ _ hij h3)
     have hb : (j == j2) = false := by simpa using this
     simp [lookO,hb,h5]
   ·simp only [lookO] at hu
    split at hu
    ·rename_i he
     simp only [beq_iff_eq] at he
     simp only [oIQ] at hu
     subst he; subst hu
     exact ⟨i,o,hij,ho',by simp [lookO]⟩
    ·rename_i he
     simp only [beq_iff_eq] at he
     obtain ⟨i2,u2,h3,h4,h5⟩ := h2 j' u' hu
     refine ⟨i2,u2,h3,h4,?_⟩
     have : i ≠ i2 := fun e => by subst e; exact he (ui _ _ _ hij h3)
     have hb : (i == i2) = false := by simpa using this
     simp [lookO,hb,h5]
  ·cases h
section
variable {P : Program} {fr : Fr} {n : Nat} {a : Act} {w : World} {pl : Pl}
theorem aKI {own own' : bR} {ij : List (Nat × Nat)} (hj : (ij.map (·.2)).Nodup) (hi : (ij.map (·.1)).Nodup) (hsame : ∀ i j,(i,j) ∈ ij -> i < 100 -> j = i) (h : jR ij own = some own') (m : Mem fr (lookO own) w pl) : ∃ pl',Mem fr (lookO own') w pl' /\ Ren w pl (lookO own) pl' (lookO own') ij false := by
 obtain ⟨h1,h2⟩ := oX hj hi h
 have uj : ∀ a b c : Nat,(a,c) ∈ ij -> (b,c) ∈ ij -> a = b := by
  intro a b c ha hb
  obtain ⟨x,hx⟩ := List.getElem?_of_mem ha
  obtain ⟨y,hy⟩ := List.getElem?_of_mem hb
  have e1 : (ij.map (·.2))[x]? = some c := by simp [hx]
  have e2 : (ij.map (·.2))[y]? = some c := by simp [hy]
  have := (List.getElem?_inj (gsQ.1 e1).1 hj).1 (e1.trans e2.symm)
  subst this
  rw [hx] at hy
  injection hy with hy
  injection hy
 have ui : ∀ a b c : Nat,(c,a) ∈ ij -> (c,b) ∈ ij -> a = b := by
  intro a b c ha hb
  obtain ⟨x,hx⟩ := List.getElem?_of_mem ha
  obtain ⟨y,hy⟩ := List.getElem?_of_mem hb
  have e1 : (ij.map (·.1))[x]? = some c := by simp [hx]
  have e2 : (ij.map (·.1))[y]? = some c := by simp [hy]
  have := (List.getElem?_inj (gsQ.1 e1).1 hi).1 (e1.trans e2.symm)
  subst this
  rw [hx] at hy
  injection hy with hy
  injection hy
 let inv : Nat -> Nat := fun j => match ij.find? (fun x => x.2 == j) with
  | some x => x.1
  | none => 0
 have hinv : ∀ i j,(i,j) ∈ ij -> inv j = i := by
  intro i j hm
  have : ∃ x,ij.find? (fun x => x.2 == j) = some x := by
   cases hf : ij.find? (fun x => x.2 == j) with
   | some x => exact ⟨x,rfl⟩
   | none => have := List.find?_eq_none.1 hf (i,j) hm; simp at this
  obtain ⟨x,hx⟩ := this
  have hx2 := List.find?_some hx
  simp only [beq_iff_eq] at hx2
  have hxm := List.mem_of_find?_eq_some hx
  simp only [inv,hx]
  exact uj x.1 i j (by rw [<- hx2]; exact hxm) hm
 let pl' : Pl := { S := pl.S,blk := fun j => pl.blk (inv j),sl := fun j => pl.sl (inv j) }
 have hren : ∀ (i j : Nat) (o o' : Ob),(i,j) ∈ ij -> jJ ij false o = some o' -> lookO own i = some o -> lookO own' j = some o' := by
  intro i j o o' hm hr ho
  obtain ⟨j2,o2,h3,h4,h5⟩ := h1 i o ho
  rw [ui j j2 i hm h3]
  rw [hr] at h4
  injection h4 with h4
  rw [h4]; exact h5
 have hblk : ∀ j b,aM pl' (lookO own') j = some b -> ∃ i,(i,j) ∈ ij /\ aM pl (lookO own) i = some b := by
  intro j b hb
  cases ho : lookO own' j with
  | none => simp [aM,ho] at hb
  | some o' =>
   obtain ⟨i,o,h3,h4,h5⟩ := h2 j o' ho
   refine ⟨i,h3,?_⟩
   have e := hinv i j h3
   unfold aM at hb ⊢
   rw [ho] at hb
   rw [h5]
   cases o with
   | box ty cells =>
    simp only [jJ] at h4
    split at h4
    ·simp only [oIQ] at h4; subst h4; simp only [pl',e] at hb; exact hb
    ·cases h4
   | arr k el sz es => obtain ⟨ov,_,rfl⟩ := fC h4; simp only [pl',e] at hb; exact hb
 have hsh : ∀ b,Sh pl (lookO own) b -> Sh pl' (lookO own') b := fun b hs => ⟨hs.1,fun j hj' => by
  obtain ⟨i,_,h3⟩ := hblk j b hj'
  exact hs.2 i h3⟩
 have T : ∀ d v,Rd w (Sh pl (lookO own)) d v -> Rd w (Sh pl' (lookO own')) d v := fun d v h => Rd.frame (fun _ _ _ => rfl) (fun b _ h => hsh b h) h
 have R : Ren w pl (lookO own) pl' (lookO own') ij false := by
  refine ⟨fun d v _ h => T d v h,fun i j hr ty cs ho => ?_,fun i j hr k e sz es ho => ?_⟩
  ·have hm := qW hr
   obtain ⟨j2,o2,h3,h4,h5⟩ := h1 i _ ho
   have := ui j j2 i hm h3
   subst this
   simp only [jJ] at h4
   split at h4
   ·simp only [oIQ] at h4
    subst h4
    exact ⟨⟨_,_,h5⟩,by simp only [pl',hinv i j hm]⟩
   ·cases h4
  ·have hm := qW hr
   obtain ⟨j2,o2,h3,h4,h5⟩ := h1 i _ ho
   have := ui j j2 i hm h3
   subst this
   obtain ⟨ov,hov,rfl⟩ := fC h4
   exact ⟨⟨ov,h5⟩,by simp only [pl',hinv i j hm]⟩
 refine ⟨pl',⟨m.frOk,m.hS,fun j o' ho => ?_,fun i j b hbi hbj => ?_,fun j b hb => ?_,fun i b hb => ?_,m.os,m.tape,m.output,m.grow,m.keep,fun j ty cs b hj hb => ?_⟩,R⟩
 ·obtain ⟨i,o,h3,h4,h5⟩ := h2 j o' ho
  have hobj := m.obj i o h5
  have e := hinv i j h3
  cases o with
  | box ty cells =>
   simp only [jJ] at h4
   split at h4
   ·rename_i l hl
    simp only [oIQ] at h4
    subst h4
    obtain ⟨vs,h6,h7⟩ := hobj
    exact ⟨vs,by simp only [pl',e]; exact h6,R.l hl h7⟩
   ·cases h4
  | arr k el sz es =>
   obtain ⟨ov,hov,rfl⟩ := fC h4
   obtain ⟨xs,h6,h7,h8⟩ := hobj
   exact ⟨xs,by simp only [pl',e]; rw [rK hov]; exact h6,R.ov hov (fun h => by cases h) h7,h8⟩
 ·obtain ⟨x,hx,h3⟩ := hblk i b hbi
  obtain ⟨y,hy,h4⟩ := hblk j b hbj
  have := m.inj x y b h3 h4
  subst this
  exact ui i j x hx hy
 ·obtain ⟨i,hm,h3⟩ := hblk j b hb
  rcases m.base i b h3 with h4 | h4
  ·exact .inl h4
  ·have := hsame i j hm (m.frOk.few i b h4)
   subst this
   exact .inr h4
 ·rcases m.bor i b hb with ⟨ty,cs,h3,h4⟩ | ⟨k,e,sz,es,h3⟩
  ·obtain ⟨j,o',hm,h5,h6⟩ := h1 i _ h3
   have := hsame i j hm (m.frOk.few i b hb)
   subst this
   simp only [jJ] at h5
   split at h5
   ·simp only [oIQ] at h5
    subst h5
    exact .inl ⟨_,_,h6,by simp only [pl',hinv _ _ hm]; exact h4⟩
   ·cases h5
  ·obtain ⟨j,o',hm,h5,h6⟩ := h1 i _ h3
   have := hsame i j hm (m.frOk.few i b hb)
   subst this
   obtain ⟨ov,hov,rfl⟩ := fC h5
   exact .inr ⟨_,_,_,_,h6⟩
 ·obtain ⟨i,o,h3,h4,h5⟩ := h2 j _ hj
  have e := hinv i j h3
  cases o with
  | box ty' cells =>
   simp only [jJ] at h4
   split at h4
   ·simp only [oIQ,Ob.box.injEq] at h4
    obtain ⟨rfl,_⟩ := h4
    simp only [pl',e]
    exact m.pin i _ _ b h5 hb
   ·cases h4
  | arr k el sz es => obtain ⟨ov,_,h4⟩ := fC h4; cases h4
def aKF (P : Program) (st : St) : ResultVar -> Option SV
 | .tmp t => match aL st.env t with
  | some ([],s) => some s
  | _ => none
 | .cell x t => match aL st.env x with
  | some ([],.c (.bx i off)) => match lookO st.own i with
   | some (.box ⟨.c _,_⟩ cells) => j0 P t cells off
   | _ => none
  | _ => none
def partOf : SV -> Option (Bool × List C)
 | .c x => some (false,[x])
 | .agg xs => some (true,xs)
 | .tup _ => none
def partsOf (P : Program) (st : St) : List ResultVar -> Option (List (Bool × List C))
 | [] => some []
 | r :: l => match aKF P st r with
  | some s => match partOf s,partsOf P st l with
   | some p,some q => some (p :: q)
   | _,_ => none
  | none => none
def retS (P : Program) (st : St) (fn : Func) : Option SV :=
 match fn.results.toList with
 | [r] => aKF P st r
 | l => match partsOf P st l with
  | some q => some (.tup q)
  | none => none
theorem aGW {st : St} (h : Ok fr n (aL st.env) (lookO st.own) a w pl) {r : ResultVar} {s : SV} (hr : aKF P st r = some s) : ∃ v,(Eng.resRun a.tmps r).run P w = .ok v w /\ aV w pl (lookO st.own) s v := by
 cases r with
 | tmp t =>
  simp only [aKF] at hr
  split at hr
  rename_i s' hf
  simp only [oIQ] at hr
  subst hr
  exact ⟨_,by simp [Eng.resRun],h.yes t [] _ hf holds_nil⟩
  cases hr
 | cell x t =>
  simp only [aKF] at hr
  split at hr
  rename_i i off hf
  split at hr
  rename_i ty cells ho
  obtain ⟨_,hv⟩ := h.yes x [] _ hf holds_nil
  obtain ⟨vs,hb,h2⟩ := h.mem.obj i _ ho
  obtain ⟨v,hv2,hok⟩ := fG hr (iH h2)
  rw [Nat.zero_add] at hv2
  have hl := Eng.run_loadB hv2 hb
  simp only [Instr.loadAt,Instr.sureAddr,Sem.run_bind,Sem.run_pure,an] at hl
  exact ⟨v,by simp [Eng.resRun,hv,asAddr,hl],hok⟩
  cases hr
  cases hr
theorem vG {own : Own} {s : SV} {q : Bool × List C} {v : Value} (h : partOf s = some q) (hv : aV w pl own s v) : cZ w pl own q v := by
 cases s with
 | c x => simp only [partOf,oIQ] at h; subst h; exact hv
 | agg xs => simp only [partOf,oIQ] at h; subst h; exact hv
 | tup => simp [partOf] at h
theorem rP {st : St} (h : Ok fr n (aL st.env) (lookO st.own) a w pl) : ∀ {l : List ResultVar} {q : List (Bool × List C)},partsOf P st l = some q -> ∃ vs : List Value,(l.mapM (Eng.resRun a.tmps)).run P w = .ok vs w /\ All2 (cZ w pl (lookO st.own)) q vs
 | [],q,hq => by simp only [partsOf,oIQ] at hq; subst hq; exact ⟨[],by simp,All2.nil⟩
 | r :: l,q,hq => by
  simp only [partsOf] at hq
  split at hq
  rename_i s hs
  split at hq
  rename_i p q' hp hq'
  simp only [oIQ] at hq
  subst hq
  obtain ⟨v,h1,h2⟩ := aGW h hs
  obtain ⟨vs,h3,h4⟩ := rP h hq'
  exact ⟨v :: vs,by simp [h1,h3],All2.cons (vG hp h2) h4⟩
  cases hq
  cases hq
theorem retS_ok {st : St} {fn : Func} (h : Ok fr n (aL st.env) (lookO st.own) a w pl) {s : SV} (hs : retS P st fn = some s) : ∃ v,(results fn a.tmps).run P w = .ok v w /\ aV w pl (lookO st.own) s v := by
 rw [Eng.results_eq]
 have hmm : (fn.results.mapM (Eng.resRun a.tmps)) = (do let vs <- fn.results.toList.mapM (Eng.resRun a.tmps); pure vs.toArray) := by
  rw [Array.mapM_eq_mapM_toList]
  rfl
 rw [hmm]
 unfold retS at hs
 split at hs
 rename_i r hr
 obtain ⟨v,h1,h2⟩ := aGW h hs
 refine ⟨v,?_,h2⟩
 rw [hr]
 simp [h1]
 rename_i l hne
 split at hs
 rename_i q hq
 simp only [oIQ] at hs
 subst hs
 obtain ⟨vs,h1,h2⟩ := rP h hq
 refine ⟨.tuple vs.toArray,?_,vs,rfl,h2⟩
 have hl : vs.length ≠ 1 := by
  intro h1'
  have hlen : ∀ (l : List ResultVar) (q : List (Bool × List C)),partsOf P st l = some q -> q.length = l.length := by
   intro l
   induction l with
   | nil => intro q h; simp only [partsOf,oIQ] at h; subst h; rfl
   | cons x r ih =>
    intro q h
    simp only [partsOf] at h
    split at h
    split at h
    rename_i p q' hp hq'
    simp only [oIQ] at h
    subst h
    simp [ih q' hq']
    cases h
    cases h
  have e1 := hlen _ _ hq
  have e2 := h2.1
  have e3 : fn.results.toList.length = 1 := by omega
  obtain ⟨r,hr⟩ := List.length_eq_one_iff.1 e3
  exact hne r hr
 simp [h1,hl]
 cases hs
def finE (P : Program) (fn : Func) (st : St) (ids : List Nat) : Option (SV × bR) :=
 match retS P st fn with
 | some s =>
  let st1 := eL ids st
  let ij := (st1.own.filter (fun e => decide (e.1 < 100))).map (fun e => (e.1,e.1)) ++ ids.zipIdx.map (fun x => (x.1,100 + x.2))
  match tY ij false (uP (lookO st.own) (fW ids) s),jR ij st1.own with
  | some out,some post => if decide ((ij.map (·.1)).Nodup) && decide ((ij.map (·.2)).Nodup) && ids.all (fun i => decide (100 <= i)) then some (out,post) else none
  | _,_ => none
 | none => none
def uS (fr : Fr) (out : SV) (post : bR) : Ending -> World -> Prop := fun e w' => ∃ v pl',e = .returned v /\ Mem fr (lookO post) w' pl' /\ aV w' pl' (lookO post) out v
theorem finE_ok {fn : Func} {st : St} {ids : List Nat} {out : SV} {post : bR} (h : finE P fn st ids = some (out,post)) (hds : fr.ds = [] /\ fr.free = false) (hok : OkS fr n st a w) : a.defers = [] /\ ∃ v,(results fn a.tmps).run P w = .ok v w /\ uS fr out post (.returned v) w := by
 unfold finE at h
 split at h
 rename_i s hs
 simp only at h
 split at h
 rename_i out' post' hout hpost
 split at h
 rename_i hc
 simp only [bIQ,decide_eq_true_eq,at1] at hc
 simp only [oIQ,pIQ] at h
 obtain ⟨rfl,rfl⟩ := h
 obtain ⟨pl,hk⟩ := id hok
 obtain ⟨v,h1,h2⟩ := retS_ok hk hs
 have hown : lookO (eL ids st).own = bO (lookO st.own) (fW ids) := by
  funext i
  simp only [eL]
  rw [iZ]
  unfold bO
  cases lookO st.own i <;> rfl
 have m1 : Mem fr (lookO (eL ids st).own) w pl := by rw [hown]; exact mX hk.mem (fun i hi => by simp [fW,hi])
 obtain ⟨pl',m2,R⟩ := aKI hc.1.2 hc.1.1 (fun i j hm hi => by
  rcases List.mem_append.1 hm with hm | hm
  obtain ⟨e,_,he⟩ := mmQ.1 hm
  injection he with e1 e2
  rw [<- e1,<- e2]
  obtain ⟨x,hx,he⟩ := mmQ.1 hm
  injection he with e1 e2
  have hmem : x.1 ∈ ids := by
   obtain ⟨_,hlt,hv⟩ := List.mem_zipIdx hx
   rw [hv]; exact List.getElem_mem _
  have := hc.2 x.1 hmem
  omega) hpost m1
 refine ⟨(hk.defers hds.2).trans hds.1,v,h1,v,pl',rfl,m2,R.s hout ?_⟩
 rw [hown]
 exact q5 hk.mem (fun i hi => by simp [fW,hi]) h2
 cases h
 cases h
 cases h
def goR (P : Program) (G : List (Nat × List Value)) (n : Nat) (root : Code) (hs : dM) (fuel : Nat) (now : Now) (st : St) (fn : Func) (ids : List Nat) : Option (SV × bR × List Prop) :=
 match go P G n root hs fuel now st with
 | some (.done e,st1,cs) => match e with
  | .exit _ => none
  | _ => match finE P fn st1 ids with
   | some (out,post) => some (out,post,cs)
   | none => none
 | _ => none
theorem stepR {R : Wp P} {G : List (Nat × List Value)} (hG : FrIs fr G []) (hm : P.follows .mixedOrders = true) {root : Code} {now : Now} {st : St} {fn : Func} {out : SV} {post : bR} (hs : dM) (ids : List Nat) (cs : List Prop) (h : goR P G n root hs 1000 now st fn ids = some (out,post,cs)) (hc : conj cs) :
  W R fr n root (bodyPost P fn (uS fr out post)) now st := by
 obtain ⟨rfl,hpin,hds⟩ := hG
 unfold goR at h
 split at h
 rename_i e st1 cs1 hgo
 split at h
 cases h
 rename_i hne
 split at h
 rename_i out' post' hfin
 simp only [oIQ,pIQ] at h
 obtain ⟨rfl,rfl,rfl⟩ := h
 refine go_ok hm 1000 now hgo hc fun a w hok => ?_
 obtain ⟨h1,v,h2,h3⟩ := finE_ok hfin (hds rfl) hok
 cases e with
 | normal => exact ⟨h1,v,h2,h3⟩
 | exit id => exact absurd rfl (hne id)
 | ret => exact ⟨h1,v,h2,h3⟩
 cases h
 cases h
def aIP (k : Nat) : List SV -> cO
 | [] => []
 | s :: r => (k,[],s) :: aIP (k + 1) r
theorem nW : ∀ {l : List SV} {k t : Nat} {p : Path} {sv : SV},aL (aIP k l) t = some (p,sv) -> p = [] /\ ∃ i,t = k + i /\ l[i]? = some sv
 | [],k,t,p,sv,h => by simp [aIP,aL] at h
 | s :: r,k,t,p,sv,h => by
  simp only [aIP,aL] at h
  split at h
  rename_i hk
  simp only [beq_iff_eq] at hk
  simp only [oIQ,pIQ] at h
  exact ⟨h.1.symm,0,by omega,by simp [h.2]⟩
  obtain ⟨h1,i,h2,h3⟩ := nW h
  exact ⟨h1,i + 1,by omega,by simpa using h3⟩
theorem enterS {G : List (Nat × List Value)} {f : FuncId} {fn : Func} {c : Code} {ins : List SV} {refs : bR} {out : SV} {post : bR} (n : Nat) (hf : P.funcs[f]? = some fn) (hb : fn.body = some c) (hn : fn.ntmps = n) (hl : decide (ins.length <= n) = true)
  (h : ∀ fr : Fr,FrIs fr G [] -> W (bB P) fr n c (bodyPost P fn (uS fr out post)) (.code []) ⟨aIP 0 ins,refs⟩) : Spec P G f ins refs out post := by
 intro fr w pl args hw hG m hargs
 have hl := of_decide_eq_true hl
 refine calls_of_wp hf hb (h fr hG c rfl _ w ⟨pl,m,fun _ => (hG.ds rfl).1.symm,?_,?_,?_,⟨fun q hq => (by rw [hG.lat] at hq; cases hq),fun hf => (by rw [(hG.ds rfl).2] at hf; cases hf)⟩⟩)
 have := hargs.1; simp [hn]; omega
 intro t p sv hfd _
 obtain ⟨_,i,rfl,hi⟩ := nW hfd
 obtain ⟨v,hv,hok⟩ := hargs.get hi
 have hlt := (gsQ.1 hv).1
 simp only [Nat.zero_add,Array.getD_eq_getD_getElem?]
 rw [Array.getElem?_append_left (by simpa using hlt)]
 simp [hv]
 exact hok
 intro t p sv hfd hh
 obtain ⟨rfl,_⟩ := nW hfd
 exact absurd holds_nil hh
end
end Go.V
